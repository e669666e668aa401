/- SumFinds: the plain law. -/
import Derived.Test.YthacpfijoadclaaTurns
namespace Go.Proofs.Ythacpfijoadclaa
open Go Go.RowKit

theorem stepB_null {r : W32} (h : stepB r = 0) : r = 0 := by
  have hlt := r.isLt
  unfold stepB at h
  by_cases ho : odd r = true
  · rw [if_pos ho] at h
    have e : r >>> 1 = turn := by
      have h2 := congrArg (fun v => v ^^^ turn) h
      simp only [BitVec.xor_assoc, BitVec.xor_self] at h2
      rw [BitVec.xor_zero] at h2
      rw [h2]
      exact BitVec.zero_xor
    have h3 := congrArg BitVec.toNat e
    rw [toNat_shr] at h3
    have h4 : turn.toNat = 2197175160 := by decide
    omega
  · rw [if_neg ho] at h
    have h3 := congrArg BitVec.toNat h
    rw [toNat_shr] at h3
    have h4 : (0 : W32).toNat = 0 := rfl
    have h5 : r.toNat % 2 = 0 := by
      unfold odd at ho
      have : ¬ r.toNat % 2 = 1 := by simpa using ho
      omega
    apply BitVec.eq_of_toNat_eq
    rw [h4]
    rw [h4] at h3
    omega
theorem stepN_null {n : Nat} {r : W32} (h : stepN n r = 0) : r = 0 := by
  induction n with
  | zero => exact h
  | succ n ih => exact ih (stepB_null h)
theorem xor_null {a b : W32} (h : a ^^^ b = 0) : a = b := by
  have e : (a ^^^ b) ^^^ b = a := by rw [BitVec.xor_assoc, BitVec.xor_self, BitVec.xor_zero]
  rw [h] at e
  rw [← e]
  exact BitVec.zero_xor
theorem stepN_inj {n : Nat} {a b : W32} (h : stepN n a = stepN n b) : a = b := by
  apply xor_null
  apply stepN_null (n := n)
  rw [stepN_xor, h]
  exact BitVec.xor_self
theorem byteS_inj {a b : W32} {x : UInt8} (h : byteS a x = byteS b x) : a = b := by
  have h1 := stepN_inj h
  apply xor_null
  have h2 : (a ^^^ ofB x) ^^^ (b ^^^ ofB x) = 0 := by rw [h1, BitVec.xor_self]; rfl
  have h3 : (a ^^^ ofB x) ^^^ (b ^^^ ofB x) = a ^^^ b := by
    rw [BitVec.xor_comm b (ofB x), BitVec.xor_assoc, ← BitVec.xor_assoc (ofB x), BitVec.xor_self, BitVec.zero_xor]
  rw [← h3]; exact h2
theorem runS_inj {S : List UInt8} : ∀ {a b : W32}, runS a S = runS b S → a = b := by
  induction S with
  | nil => intro a b h; exact h
  | cons x S ih => intro a b h; exact byteS_inj (ih h)

/-! ### what turns of up to four bytes make of a register -/
def dif (X : Nat → UInt8) : Nat → W32
  | 0 => 0
  | i + 1 => stepN 8 (dif X i ^^^ ofB (X i))
def gat (X : Nat → UInt8) : Nat → W32
  | 0 => 0
  | i + 1 => gat X i ^^^ BitVec.ofNat 32 ((X i).toNat * 2 ^ (8 * i))
theorem dif_gat (X : Nat → UInt8) : ∀ i, i ≤ 4 → dif X i = stepN (8 * i) (gat X i) ∧ (gat X i).toNat < 2 ^ (8 * i)
  | 0, _ => ⟨rfl, by show (0 : W32).toNat < 2 ^ 0; decide⟩
  | i + 1, hi => by
    obtain ⟨h1, h2⟩ := dif_gat X i (by omega)
    have hx := (X i).toNat_lt
    have hp : 2 ^ (8 * (i + 1)) = 2 ^ (8 * i) * 256 := by rw [Nat.mul_succ, Nat.pow_add]
    have hle : 2 ^ (8 * (i + 1)) ≤ 2 ^ 32 := Nat.pow_le_pow_right (by decide) (by omega)
    have hy : (X i).toNat * 2 ^ (8 * i) < 2 ^ (8 * (i + 1)) := by
      rw [hp, Nat.mul_comm]
      exact Nat.mul_lt_mul_of_pos_left (by omega) (Nat.pow_pos (by decide))
    have hn : (BitVec.ofNat 32 ((X i).toNat * 2 ^ (8 * i))).toNat = (X i).toNat * 2 ^ (8 * i) := by
      rw [BitVec.toNat_ofNat]
      exact Nat.mod_eq_of_lt (by omega)
    have hb : stepN (8 * i) (BitVec.ofNat 32 ((X i).toNat * 2 ^ (8 * i))) = ofB (X i) := by
      rw [stepN_low _ _ (by rw [hn]; exact Nat.mul_mod_left _ _)]
      apply BitVec.eq_of_toNat_eq
      rw [toNat_shr, hn, Nat.mul_div_cancel _ (Nat.pow_pos (by decide))]
      unfold ofB
      rw [BitVec.toNat_ofNat, Nat.mod_eq_of_lt (by omega)]
    refine ⟨?_, ?_⟩
    · show stepN 8 (dif X i ^^^ ofB (X i)) = _
      rw [h1, ← hb, ← stepN_xor, ← stepN_add, show 8 + 8 * i = 8 * (i + 1) by omega]
      rfl
    · show (gat X i ^^^ _).toNat < _
      rw [BitVec.toNat_xor, hn]
      exact Nat.xor_lt_two_pow (by rw [hp]; omega) hy
theorem dif_null (X : Nat → UInt8) : ∀ i, i ≤ 4 → dif X i = 0 → ∀ j, j < i → X j = 0
  | 0, _, _ => by intro j hj; omega
  | i + 1, hi, h => by
    obtain ⟨h1, h2⟩ := dif_gat X i (by omega)
    have hx := (X i).toNat_lt
    have hp : 2 ^ (8 * (i + 1)) = 2 ^ (8 * i) * 256 := by rw [Nat.mul_succ, Nat.pow_add]
    have hle : 2 ^ (8 * (i + 1)) ≤ 2 ^ 32 := Nat.pow_le_pow_right (by decide) (by omega)
    have hy : (X i).toNat * 2 ^ (8 * i) < 2 ^ (8 * (i + 1)) := by
      rw [hp, Nat.mul_comm]
      exact Nat.mul_lt_mul_of_pos_left (by omega) (Nat.pow_pos (by decide))
    have hn : (BitVec.ofNat 32 ((X i).toNat * 2 ^ (8 * i))).toNat = (X i).toNat * 2 ^ (8 * i) := by
      rw [BitVec.toNat_ofNat]
      exact Nat.mod_eq_of_lt (by omega)
    have hg := (dif_gat X (i + 1) hi).1
    rw [h] at hg
    have h0 : gat X i ^^^ BitVec.ofNat 32 ((X i).toNat * 2 ^ (8 * i)) = 0 := stepN_null (n := 8 * (i + 1)) hg.symm
    have e := congrArg BitVec.toNat (xor_null h0)
    rw [hn] at e
    have hz : (X i).toNat = 0 := by
      rcases Nat.eq_zero_or_pos (X i).toNat with h3 | h3
      · exact h3
      · have : 2 ^ (8 * i) ≤ (X i).toNat * 2 ^ (8 * i) := Nat.le_mul_of_pos_left _ h3
        omega
    have hXi : X i = 0 := UInt8.toNat_inj.1 hz
    have hd : dif X i = 0 := by
      have h4 : gat X i = 0 := by
        apply BitVec.eq_of_toNat_eq
        rw [e, hz, Nat.zero_mul]; rfl
      rw [h1, h4, stepN_zero]
    intro j hj
    by_cases hji : j = i
    · rw [hji]; exact hXi
    · exact dif_null X i (by omega) hd j (by omega)
theorem dif_zero (X : Nat → UInt8) : ∀ i, (∀ j, j < i → X j = 0) → dif X i = 0
  | 0, _ => rfl
  | i + 1, h => by
    show stepN 8 (dif X i ^^^ ofB (X i)) = 0
    rw [dif_zero X i (fun j hj => h j (by omega)), h i (by omega)]
    exact stepN_zero 8

/-! ### the texts -/
def xorL (M : List UInt8) (X : Nat → UInt8) (k : Nat) : List UInt8 := M.mapIdx fun j b => if j < k then b ^^^ X j else b
theorem xorL_len (M : List UInt8) (X : Nat → UInt8) (k : Nat) : (xorL M X k).length = M.length := by simp [xorL]
theorem xorL_at {M : List UInt8} {X : Nat → UInt8} {k j : Nat} (h : j < M.length) : (xorL M X k)[j]? = some (if j < k then M[j] ^^^ X j else M[j]) := by
  unfold xorL
  rw [List.getElem?_mapIdx, List.getElem?_eq_getElem h]
  rfl
theorem xorL_zero (M : List UInt8) (X : Nat → UInt8) : xorL M X 0 = M := by
  apply List.ext_getElem?
  intro j
  by_cases h : j < M.length
  · rw [xorL_at h, List.getElem?_eq_getElem h]; simp
  · rw [List.getElem?_eq_none (by rw [xorL_len]; omega), List.getElem?_eq_none (by omega)]
theorem xorL_set {M : List UInt8} {X : Nat → UInt8} {k : Nat} (h : k < M.length) : (xorL M X k).set k (M[k] ^^^ X k) = xorL M X (k + 1) := by
  apply List.ext_getElem?
  intro j
  by_cases hj : j < M.length
  · rw [List.getElem?_set]
    by_cases hkj : k = j
    · subst hkj
      rw [if_pos rfl, if_pos (by rw [xorL_len]; exact h), xorL_at h, if_pos (by omega)]
    · rw [if_neg hkj, xorL_at hj, xorL_at hj]
      by_cases h1 : j < k
      · rw [if_pos h1, if_pos (by omega)]
      · rw [if_neg h1, if_neg (by omega)]
  · rw [List.getElem?_eq_none (by simp [xorL_len]; omega), List.getElem?_eq_none (by rw [xorL_len]; omega)]
theorem run_dif (M : List UInt8) (X : Nat → UInt8) (r : W32) : ∀ j, j ≤ M.length → runS r ((xorL M X M.length).take j) ^^^ runS r (M.take j) = dif X j
  | 0, _ => by simp only [List.take_zero]; exact BitVec.xor_self
  | j + 1, hj => by
    have hx : (xorL M X M.length)[j]? = some (M[j] ^^^ X j) := by rw [xorL_at (by omega), if_pos (by omega)]
    obtain ⟨hl, hx⟩ := List.getElem?_eq_some_iff.1 hx
    rw [List.take_succ_eq_append_getElem hl, List.take_succ_eq_append_getElem (show j < M.length by omega), hx, runS_snoc, runS_snoc]
    have ih := run_dif M X r j (by omega)
    show _ = stepN 8 (dif X j ^^^ ofB (X j))
    rw [← ih]
    unfold byteS
    rw [← stepN_xor, ofB_xor]
    congr 1
    generalize runS r ((xorL M X M.length).take j) = p
    generalize runS r (M.take j) = q
    generalize ofB M[j] = y
    generalize ofB (X j) = z
    apply BitVec.eq_of_getLsbD_eq
    intro i hi
    simp only [BitVec.getLsbD_xor]
    cases p.getLsbD i <;> cases q.getLsbD i <;> cases y.getLsbD i <;> cases z.getLsbD i <;> simp
def anyX (X : Nat → UInt8) (k : Nat) : Bool := (List.range k).any fun i => X i != 0
theorem anyX_succ (X : Nat → UInt8) (k : Nat) : anyX X (k + 1) = (anyX X k || X k != 0) := by simp [anyX, List.range_succ]
theorem finds (P M S : List UInt8) (X : Nat → UInt8) (hm : M.length ≤ 4) :
    (sumS ⟨(P ++ M ++ S).toArray⟩ = sumS ⟨(P ++ xorL M X M.length ++ S).toArray⟩) ↔ anyX X M.length = false := by
  have h0 : ∀ l : List UInt8, sumS ⟨l.toArray⟩ = runS allOne l ^^^ allOne := fun _ => rfl
  rw [h0, h0, runS_append, runS_append, runS_append, runS_append]
  generalize runS allOne P = r
  have hd := run_dif M X r M.length (Nat.le_refl _)
  rw [List.take_of_length_le (by rw [xorL_len]; exact Nat.le_refl _), List.take_of_length_le (Nat.le_refl _)] at hd
  constructor
  · intro h
    have h1 : runS (runS r M) S = runS (runS r (xorL M X M.length)) S := by
      have h2 := congrArg (fun v => v ^^^ allOne) h
      simp only [BitVec.xor_assoc, BitVec.xor_self, BitVec.xor_zero] at h2
      exact h2
    have h3 := runS_inj h1
    rw [h3, BitVec.xor_self] at hd
    have h4 := dif_null X M.length hm hd.symm
    unfold anyX
    rw [List.any_eq_false]
    intro i hi
    rw [List.mem_range] at hi
    simp [h4 i hi]
  · intro h
    have h4 : ∀ j, j < M.length → X j = 0 := by
      intro j hj
      unfold anyX at h
      rw [List.any_eq_false] at h
      have := h j (List.mem_range.2 hj)
      simpa using this
    rw [dif_zero X M.length h4] at hd
    rw [xor_null hd]
end Go.Proofs.Ythacpfijoadclaa
