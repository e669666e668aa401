/- perm.Mode in plain lists: what it answers, and that Show's text comes back. No Go in sight. -/
import Derived.Test.YtkffddaogogigaaBase
import Derived.Test.YtkffddaogogigaaShow
namespace Go.Proofs.Ytkffddaogogigaa
open Go.RowKit

/-- the mode of the letters that are left, from the k-th on; m: what stands already -/
def modeGo : List UInt8 → Nat → Int → Option Int
  | [], _, m => some m
  | c :: l, k, m => if c = letter k then modeGo l (k + 1) (2 * m + 1) else if c = 45 then modeGo l (k + 1) (2 * m) else none

theorem modeGo_back : ∀ (l : List UInt8) (k : Nat) (m0 m : Int), k + l.length = 9 → modeGo l k m0 = some m →
    m / 2 ^ l.length = m0 ∧ ∀ j (h : j < l.length), l[j] = showAt m (k + j)
  | [], k, m0, m, hk, h => by
    simp [modeGo] at h
    subst h
    exact ⟨by simp, fun j h => absurd h (Nat.not_lt_zero _)⟩
  | c :: l, k, m0, m, hk, h => by
    have hk' : k + 1 + l.length = 9 := by simp at hk; omega
    have e8 : 8 - k = l.length := by omega
    have hp : (0 : Int) < 2 ^ l.length := Int.pow_pos (by decide)
    have hdiv : m / 2 ^ (c :: l).length = m / 2 ^ l.length / 2 := by
      rw [List.length_cons, Int.pow_succ, Int.ediv_ediv_of_nonneg (Int.le_of_lt hp)]
    unfold modeGo at h
    by_cases hc : c = letter k
    · rw [if_pos hc] at h
      obtain ⟨h1, h2⟩ := modeGo_back l (k + 1) _ m hk' h
      refine ⟨by rw [hdiv, h1]; omega, fun j hj => ?_⟩
      cases j with
      | zero => simp only [List.getElem_cons_zero, Nat.add_zero, showAt, e8, h1]; rw [if_neg (by omega)]; exact hc
      | succ j => simp only [List.getElem_cons_succ]; rw [h2 j (by simpa using hj)]; congr 1; omega
    · rw [if_neg hc] at h
      by_cases hd : c = 45
      · rw [if_pos hd] at h
        obtain ⟨h1, h2⟩ := modeGo_back l (k + 1) _ m hk' h
        refine ⟨by rw [hdiv, h1]; omega, fun j hj => ?_⟩
        cases j with
        | zero => simp only [List.getElem_cons_zero, Nat.add_zero, showAt, e8, h1]; rw [if_pos (by omega)]; exact hd
        | succ j => simp only [List.getElem_cons_succ]; rw [h2 j (by simpa using hj)]; congr 1; omega
      · rw [if_neg hd] at h; cases h

theorem showAt_low (m : Int) (j : Nat) : showAt m j = showAt (m % 512) j := by
  unfold showAt
  have h : ∀ i : Nat, i ≤ 8 → m / 2 ^ i % 2 = m % 512 / 2 ^ i % 2 := by
    intro i hi
    have : i = 0 ∨ i = 1 ∨ i = 2 ∨ i = 3 ∨ i = 4 ∨ i = 5 ∨ i = 6 ∨ i = 7 ∨ i = 8 := by omega
    rcases this with rfl | rfl | rfl | rfl | rfl | rfl | rfl | rfl | rfl <;> omega
  rw [h (8 - j) (by omega)]
theorem rowList_low (m : Int) : rowList m 9 = rowList (m % 512) 9 := by
  unfold rowList
  apply List.map_congr_left
  intro j hj
  rw [showAt_low]
theorem mode_tab : ∀ m : Fin 512, modeGo (rowList (m.val : Int) 9) 0 0 = some (m.val : Int) := by decide +kernel
theorem mode_show (m : Int) : modeGo (rowList m 9) 0 0 = some (m % 512) := by
  have h := mode_tab ⟨(m % 512).toNat, by omega⟩
  have e : (((m % 512).toNat : Nat) : Int) = m % 512 := by omega
  simp only [e] at h
  rw [rowList_low, h]

theorem rowList_len (m : Int) (k : Nat) : (rowList m k).length = 9 := by simp [rowList]
theorem modeGo_range : ∀ (l : List UInt8) (k : Nat) (m0 m : Int), 0 ≤ m0 → modeGo l k m0 = some m → 0 ≤ m ∧ m < (m0 + 1) * 2 ^ l.length
  | [], _, m0, m, h0, h => by
    simp [modeGo] at h
    subst h
    simp
    omega
  | c :: l, k, m0, m, h0, h => by
    have hp : (0 : Int) < 2 ^ l.length := Int.pow_pos (by decide)
    have e : (m0 + 1) * 2 ^ (c :: l).length = (2 * m0 + 2) * 2 ^ l.length := by
      rw [List.length_cons, Int.pow_succ, Int.mul_comm (2 ^ l.length) 2, ← Int.mul_assoc]; congr 1; omega
    have e2 : (2 * m0 + 2) * (2 : Int) ^ l.length = (2 * m0 + 1) * 2 ^ l.length + 2 ^ l.length := by
      rw [show (2 * m0 + 2 : Int) = (2 * m0 + 1) + 1 from by omega, Int.add_mul, Int.one_mul]
    unfold modeGo at h
    rw [e]
    by_cases hc : c = letter k
    · rw [if_pos hc] at h
      have := modeGo_range l (k + 1) _ m (by omega) h
      rw [show (2 * m0 + 1 + 1 : Int) = 2 * m0 + 2 from by omega] at this
      exact this
    · rw [if_neg hc] at h
      by_cases hd : c = 45
      · rw [if_pos hd] at h
        have := modeGo_range l (k + 1) _ m (by omega) h
        rw [e2]
        omega
      · rw [if_neg hd] at h; cases h

theorem show_of_mode (s : ByteArray) (m : Int) (hs : s.size = 9) (h : modeGo s.data.toList 0 0 = some m) : showF m = s ∧ 0 ≤ m ∧ m < 512 := by
  have hl : s.data.toList.length = 9 := by simpa using hs
  obtain ⟨_, h2⟩ := modeGo_back s.data.toList 0 0 m (by omega) h
  have h3 := modeGo_range s.data.toList 0 0 m (by omega) h
  refine ⟨?_, h3.1, by rw [hl] at h3; omega⟩
  have : rowList m 9 = s.data.toList := by
    apply List.ext_getElem
    · rw [rowList_len, hl]
    · intro j h1 h4
      rw [h2 j h4]
      have : j < 9 := by omega
      simp [rowList, this]
  unfold showF
  rw [this]
end Go.Proofs.Ytkffddaogogigaa
