/- posthouseref15: keys in a row of structs. -/
import Derived.Test.YtcocdhlpmgfphaaSpares
import Derived.Deep.RegionLaw
namespace Go.Proofs.Ytcocdhlpmgfphaa
open Go Go.RowKit
open S

def cells2 (L : St) : List Value := L.flatMap fun x => [.string x.1, .bool x.2]
theorem cells2_len (L : St) : (cells2 L).length = L.length * 2 := by
  induction L with
  | nil => rfl
  | cons x L ih => simp only [cells2, List.flatMap_cons, List.length_append, List.length_cons, List.length_nil] at ih ⊢; omega
theorem cells2_cons (x : K × Bool) (L : St) : cells2 (x :: L) = .string x.1 :: .bool x.2 :: cells2 L := rfl
theorem cells2_append (L M : St) : cells2 (L ++ M) = cells2 L ++ cells2 M := by simp [cells2]
theorem cells2_at {L : St} : ∀ {k : Nat} (h : k < L.length), (cells2 L)[k * 2]? = some (.string L[k].1) ∧ (cells2 L)[k * 2 + 1]? = some (.bool L[k].2) := by
  induction L with
  | nil => intro k h; exact absurd h (Nat.not_lt_zero _)
  | cons x L ih =>
    intro k h
    rw [cells2_cons]
    cases k with
    | zero => exact ⟨rfl, rfl⟩
    | succ k =>
      obtain ⟨h1, h2⟩ := ih (k := k) (by simpa using h)
      rw [show (k + 1) * 2 = k * 2 + 1 + 1 by omega]
      exact ⟨by simpa using h1, by simpa using h2⟩
theorem cells2_set {L : St} {s : K} : ∀ {k : Nat} (h : k < L.length), L[k].1 = s → (cells2 L).set (k * 2 + 1) (.bool true) = cells2 (L.set k (s, true)) := by
  induction L with
  | nil => intro k h; exact absurd h (Nat.not_lt_zero _)
  | cons x L ih =>
    intro k h he
    rw [cells2_cons]
    cases k with
    | zero =>
      simp only [List.getElem_cons_zero] at he
      subst he
      rfl
    | succ k =>
      rw [show (k + 1) * 2 + 1 = (k * 2 + 1) + 1 + 1 by omega, List.set_cons_succ, List.set_cons_succ, List.set_cons_succ, cells2_cons, ih (by simpa using h) (by simpa using he)]
theorem cells2_one (L : St) : ∀ u ∈ cells2 L, u.oneCell' = true := by
  intro u hu
  obtain ⟨x, _, hx⟩ := List.mem_flatMap.1 hu
  simp at hx
  rcases hx with rfl | rfl <;> rfl
theorem touch_set {L : St} {s : K} {k : Nat} (hn : (keysOf L).Nodup) (hk : k < L.length) (he : L[k].1 = s) : touch L s = L.set k (s, true) := by
  have hin : s ∈ keysOf L := mem_keys.2 ⟨L[k].2, by rw [← he]; exact List.getElem_mem hk⟩
  unfold touch
  rw [if_pos hin]
  apply List.ext_getElem?
  intro j
  rw [List.getElem?_map, List.getElem?_set]
  by_cases hj : k = j
  · subst hj
    simp [hk, he]
  · rw [if_neg hj]
    cases hx : L[j]? with
    | none => rfl
    | some x =>
      obtain ⟨hjl, hx⟩ := List.getElem?_eq_some_iff.1 hx
      subst hx
      simp only [Option.map_some, Option.some.injEq]
      rw [if_neg]
      intro e
      have h1 : (keysOf L)[j]? = (keysOf L)[k]? := by
        unfold keysOf
        rw [List.getElem?_map, List.getElem?_map, List.getElem?_eq_getElem hjl, List.getElem?_eq_getElem hk]
        simp [e, he]
      have hkl : (keysOf L).length = L.length := by simp [keysOf]
      have := (List.getElem_inj (h₀ := by rw [hkl]; exact hjl) (h₁ := by rw [hkl]; exact hk) hn).1 (by
        rw [List.getElem?_eq_getElem (by rw [hkl]; exact hjl), List.getElem?_eq_getElem (by rw [hkl]; exact hk)] at h1
        exact Option.some.inj h1)
      exact hj this.symm

/-- the row v holds the keys L -/
def Rf (w : World) (B : Nat) (v : Value) (L : St) : Prop := Sl w B 68 2 v L.length (cells2 L)
theorem info68 : (Try.prog.info? 68).map (fun i => (i.zero, i.size, i.bytes)) = some (some (.agg #[.string ⟨#[]⟩, .bool false]), 2, 24) := by kernel_rfl

/-! ### Place -/
set_option maxHeartbeats 1000000 in
theorem place_any {B : Nat} (A : Option Addr) (cap : Nat) (L : St) (s : K) (w : World) (h : Rf w B (.slice A L.length cap) L) (hfew : L.length ≤ 1000000000) :
    Calls Try.prog 23 #[.slice A L.length cap, .string s] w (IdxV (keysOf L) s w) := by
  have HR := Lib.hid h
  have hkl : (keysOf L).length = L.length := by simp [keysOf]
  have HKL := Lib.hid hkl
  clear h hkl
  go_enter Try.func23, Try.ntmps23
  go_wp2
  go_loop [5] (fun i => ∃ k : Nat, k ≤ L.length ∧ (∀ j : Nat, j < k → (keysOf L)[j]? ≠ some s) ∧ i = .int .i64 k) (fun i => L.length - (intOf i).toNat)
  case atStart => exact ⟨0, by omega, by simp, rfl⟩
  case round =>
    obtain ⟨k, hk, hno, rfl⟩ := hrel
    have HN := Lib.hid hno
    clear hno
    by_cases hlt : k < L.length
    · obtain ⟨b, off, cap', he, _, _⟩ := (show Sl w B 68 2 (.slice A L.length cap) L.length (cells2 L) from HR.out).shape (by omega)
      cases he
      have hc := (show Sl w B 68 2 (.slice (some ⟨b, off, none⟩) L.length cap) L.length (cells2 L) from HR.out).cell (cells2_at hlt).1
      have hkk : (keysOf L)[k]? = some L[k].1 := by simp [keysOf, hlt]
      by_cases he : L[k].1 = s
      · have HE := Lib.hid (he ▸ hkk)
        have ht := eq_yes he
        clear he hkk
        go_wp2_with fail
        go_ret
        exact ⟨rfl, .inl ⟨k, HE.out, HN.out, rfl⟩⟩
      · have HE := Lib.hid (And.intro he hkk)
        have ht := eq_no he
        clear he hkk
        go_wp2_with fail
        go_round
        case rel =>
          refine ⟨k + 1, by omega, fun j hj => ?_, by go_num⟩
          by_cases hjk : j = k
          · subst hjk
            rw [HE.out.2]
            intro h
            exact HE.out.1 (Option.some.inj h)
          · exact HN.out j (by omega)
        case measure => simp [intOf]; omega
    · go_wp2_with fail
      go_ret
      refine ⟨rfl, .inr ⟨fun hm => ?_, rfl⟩⟩
      obtain ⟨j, hj, he⟩ := List.getElem_of_mem hm
      exact HN.out j (by rw [HKL.out] at hj; omega) (by rw [List.getElem?_eq_getElem hj, he])
end Go.Proofs.Ytcocdhlpmgfphaa
