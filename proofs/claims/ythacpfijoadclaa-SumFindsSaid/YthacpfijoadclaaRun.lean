/- A register led over a text: by the table, and bit by bit. -/
import Derived.Test.YthacpfijoadclaaOnce
namespace Go.Proofs.Ythacpfijoadclaa
open Go Go.RowKit

/-! ### steps are linear -/
theorem odd_xor (a b : W32) : odd (a ^^^ b) = (odd a != odd b) := by
  have h : ∀ x : W32, odd x = x.getLsbD 0 := by
    intro x
    unfold odd
    rw [BitVec.getLsbD, Nat.testBit_zero]
    by_cases hx : x.toNat % 2 = 1 <;> simp [hx]
  rw [h, h, h, BitVec.getLsbD_xor]
theorem shr_xor (a b : W32) (k : Nat) : (a ^^^ b) >>> k = (a >>> k) ^^^ (b >>> k) := by
  apply BitVec.eq_of_getLsbD_eq
  intro i hi
  simp [BitVec.getLsbD_ushiftRight, BitVec.getLsbD_xor]
theorem stepB_xor (a b : W32) : stepB (a ^^^ b) = stepB a ^^^ stepB b := by
  unfold stepB
  rw [odd_xor, shr_xor]
  cases odd a <;> cases odd b
  · simp
  · simp [BitVec.xor_assoc]
  · simp only [Bool.true_bne, Bool.not_false, if_true, Bool.false_eq_true, if_false]
    rw [BitVec.xor_assoc, BitVec.xor_comm (b >>> 1) turn, ← BitVec.xor_assoc]
  · simp only [bne_self_eq_false, Bool.false_eq_true, if_false, if_true]
    rw [BitVec.xor_assoc, ← BitVec.xor_assoc turn, BitVec.xor_comm turn (b >>> 1), BitVec.xor_assoc (b >>> 1), BitVec.xor_self, BitVec.xor_zero]
theorem stepN_xor (n : Nat) (a b : W32) : stepN n (a ^^^ b) = stepN n a ^^^ stepN n b := by
  induction n with
  | zero => rfl
  | succ n ih => simp only [stepN, ih, stepB_xor]
theorem stepB_zero : stepB 0 = 0 := by decide
theorem stepN_zero (n : Nat) : stepN n 0 = 0 := by
  induction n with
  | zero => rfl
  | succ n ih => simp only [stepN, ih, stepB_zero]
/-- a register whose low bits are nothing is moved down alone -/
theorem stepN_low : ∀ (n : Nat) (r : W32), r.toNat % 2 ^ n = 0 → stepN n r = r >>> n
  | 0, r, _ => by simp [stepN]
  | n + 1, r, h => by
    have h1 : r.toNat % 2 ^ n = 0 := by
      have : 2 ^ n ∣ r.toNat := Nat.dvd_trans (Nat.pow_dvd_pow 2 (Nat.le_succ n)) (Nat.dvd_of_mod_eq_zero h)
      exact Nat.mod_eq_zero_of_dvd this
    rw [stepN, stepN_low n r h1, stepB, if_neg]
    · apply BitVec.eq_of_toNat_eq
      rw [toNat_shr, toNat_shr, toNat_shr, Nat.div_div_eq_div_mul, ← Nat.pow_add]
    · unfold odd
      rw [toNat_shr]
      obtain ⟨c, hc⟩ := Nat.dvd_of_mod_eq_zero h
      rw [hc, Nat.pow_succ, Nat.mul_assoc, Nat.mul_div_cancel_left _ (Nat.pow_pos (by decide))]
      simp
def nib (r : W32) : W32 := (r >>> 4) ^^^ stepN 4 (BitVec.ofNat 32 (r.toNat % 16))
theorem split4 (r : W32) : r = BitVec.ofNat 32 (r.toNat / 16 * 16) ^^^ BitVec.ofNat 32 (r.toNat % 16) := by
  have hlt := r.isLt
  apply BitVec.eq_of_toNat_eq
  rw [BitVec.toNat_xor, BitVec.toNat_ofNat, BitVec.toNat_ofNat, Nat.mod_eq_of_lt (by omega), Nat.mod_eq_of_lt (by omega)]
  have h1 : r.toNat / 16 * 16 = (r.toNat / 16) <<< 4 := by rw [Nat.shiftLeft_eq]
  have h2 : (r.toNat / 16) <<< 4 ^^^ r.toNat % 16 = (r.toNat / 16) <<< 4 + r.toNat % 16 := by
    apply Nat.eq_of_testBit_eq
    intro i
    have hm : r.toNat % 16 < 2 ^ 4 := Nat.mod_lt _ (by decide)
    rw [Nat.testBit_xor, Nat.testBit_shiftLeft]
    have h3 : ((r.toNat / 16) <<< 4 + r.toNat % 16) = 2 ^ 4 * (r.toNat / 16) + r.toNat % 16 := by rw [Nat.shiftLeft_eq, Nat.mul_comm]
    rw [h3, Nat.testBit_two_pow_mul_add _ hm]
    by_cases hi : i < 4
    · simp [hi, show ¬ 4 ≤ i by omega]
    · have : (r.toNat % 16).testBit i = false := Nat.testBit_lt_two_pow (Nat.lt_of_lt_of_le hm (Nat.pow_le_pow_right (by decide) (by omega)))
      simp [hi, this, show 4 ≤ i by omega]
  rw [h1, h2, Nat.shiftLeft_eq]
  omega
theorem nib_eq (r : W32) : nib r = stepN 4 r := by
  have hlt := r.isLt
  have hx : (BitVec.ofNat 32 (r.toNat / 16 * 16)).toNat = r.toNat / 16 * 16 := by
    rw [BitVec.toNat_ofNat]
    exact Nat.mod_eq_of_lt (by omega)
  conv => rhs; rw [split4 r]
  rw [stepN_xor, stepN_low 4 (BitVec.ofNat 32 (r.toNat / 16 * 16)) (by rw [hx]; omega)]
  unfold nib
  congr 1
  apply BitVec.eq_of_toNat_eq
  rw [toNat_shr, toNat_shr, hx]
  omega
def byteS (r : W32) (b : UInt8) : W32 := stepN 8 (r ^^^ ofB b)
theorem byte_nib (r : W32) (b : UInt8) : nib (nib (r ^^^ ofB b)) = byteS r b := by
  rw [nib_eq, nib_eq, ← stepN_add]; rfl
def runS (r : W32) (l : List UInt8) : W32 := l.foldl byteS r
theorem runS_snoc (r : W32) (l : List UInt8) (b : UInt8) : runS r (l ++ [b]) = byteS (runS r l) b := by simp [runS]
theorem runS_append (r : W32) (l m : List UInt8) : runS r (l ++ m) = runS (runS r l) m := by simp [runS]
def allOne : W32 := 4294967295#32
/-- a text's sum -/
def sumS (s : ByteArray) : W32 := runS allOne s.data.toList ^^^ allOne
theorem tab_at {i : Nat} (h : i < 16) : ∃ hh : i < tab.length, tab[i] = stepN 4 (BitVec.ofNat 32 i) := ⟨by simp [tab, h], by simp [tab]⟩
theorem bytes_at {s : ByteArray} {k : Nat} (h : k < s.size) : (s.data.toList.take (k + 1)) = s.data.toList.take k ++ [s[k]] := by
  have hl : k < s.data.toList.length := h
  rw [List.take_succ_eq_append_getElem hl]
  rfl

/-! ### run -/
set_option maxHeartbeats 4000000 in
theorem run_any (g : Nat) (n : Int) (q0 : W32) (s : ByteArray) (hsz : s.size ≤ maxLen) (w : World) (h : Sum w g n) :
    Calls Try.prog 16 #[.pointer (some ⟨g, 0, none⟩), .int .u32 (nv q0), .string s] w fun e w' => e = .returned (.int .u32 (nv (runS q0 s.data.toList))) ∧ Only g w w' ∧ Sum w' g n := by
  have hmf : ∀ (fn : Fn) (first cap : Array Value) (w : World), (Instr.makeFunc fn first cap).run Try.prog w = .ok (.func fn first cap) w := fun _ _ _ _ => rfl
  unfold maxLen at hsz
  have HD := Lib.hid (do_any g n w h)
  clear h
  go_enter Try.func16, Try.ntmps16
  go_wp2_with fail
  refine HD.out.mono ?_
  rintro e w1 ⟨rfl, ho, hs⟩
  have H1 := Lib.hid (And.intro ho hs)
  clear ho hs
  go_wp2_with fail
  go_loop [16, 1] (fun i r => ∃ k : Nat, k ≤ s.size ∧ i = .int .i64 k ∧ r = .int .u32 (nv (runS q0 (s.data.toList.take k)))) (fun i _ => s.size - (intOf i).toNat)
  case atStart => exact ⟨0, by omega, rfl, rfl⟩
  case round =>
    obtain ⟨k, hk, rfl, rfl⟩ := hrel
    by_cases hlt : k < s.size
    · obtain ⟨q, hq⟩ : ∃ q, q = runS q0 (s.data.toList.take k) := ⟨_, rfl⟩
      obtain ⟨q1, hq1⟩ : ∃ x, x = q ^^^ ofB s[k] := ⟨_, rfl⟩
      obtain ⟨s1, hs1⟩ : ∃ x, x = q1 >>> 4 := ⟨_, rfl⟩
      obtain ⟨i1, hi1⟩ : ∃ x, x = q1.toNat % 16 := ⟨_, rfl⟩
      obtain ⟨t1, ht1⟩ : ∃ x, x = stepN 4 (BitVec.ofNat 32 i1) := ⟨_, rfl⟩
      obtain ⟨q2, hq2⟩ : ∃ x, x = s1 ^^^ t1 := ⟨_, rfl⟩
      obtain ⟨s2, hs2⟩ : ∃ x, x = q2 >>> 4 := ⟨_, rfl⟩
      obtain ⟨i2, hi2⟩ : ∃ x, x = q2.toNat % 16 := ⟨_, rfl⟩
      obtain ⟨t2, ht2⟩ : ∃ x, x = stepN 4 (BitVec.ofNat 32 i2) := ⟨_, rfl⟩
      obtain ⟨q3, hq3⟩ : ∃ x, x = s2 ^^^ t2 := ⟨_, rfl⟩
      have f0 : (s[k].toNat : Int) ≤ 255 := by have := s[k].toNat_lt; omega
      have f1 : bits .xor .u32 (nv q) (s[k].toNat : Int) = nv q1 := by rw [hq1]; exact m_byte q s[k]
      have f2 : nv q1 / (16 : Int) = nv s1 := by rw [hs1]; exact m_shr4 q1
      have f3 : nv q1 % (16 : Int) = (i1 : Int) := by rw [hi1]; unfold nv; omega
      have f4 : bits .xor .u32 (nv s1) (nv t1) = nv q2 := by rw [hq2]; exact m_xor s1 t1
      have f5 : nv q2 / (16 : Int) = nv s2 := by rw [hs2]; exact m_shr4 q2
      have f6 : nv q2 % (16 : Int) = (i2 : Int) := by rw [hi2]; unfold nv; omega
      have f7 : bits .xor .u32 (nv s2) (nv t2) = nv q3 := by rw [hq3]; exact m_xor s2 t2
      have e1 : i1 < 16 := by omega
      have e2 : i2 < 16 := by omega
      obtain ⟨hh1, hx1⟩ := tab_at e1
      obtain ⟨hh2, hx2⟩ := tab_at e2
      have c1 : w1.cell? ⟨g, 4 + i1, none⟩ = some (.int .u32 (nv t1)) := by rw [ht1, ← hx1]; exact H1.out.2.ct hh1
      have c2 : w1.cell? ⟨g, 4 + i2, none⟩ = some (.int .u32 (nv t2)) := by rw [ht2, ← hx2]; exact H1.out.2.ct hh2
      have l1 := nv_lo q1
      have l2 := nv_lo q2
      have g1 := nv_hi q1
      have g2 := nv_hi q2
      have HQ : Hid (q3 = runS q0 (s.data.toList.take (k + 1))) := by
        show q3 = _
        rw [bytes_at hlt, runS_snoc, ← hq, ← byte_nib, ← hq1]
        rw [hq3, hs2, ht2, hi2, hq2, hs1, ht1, hi1]
        rfl
      rw [← hq]
      clear hq hq1 hs1 hi1 ht1 hq2 hs2 hi2 ht2 hq3 hh1 hh2 hx1 hx2
      go_wp2_with fail
      go_round
      case rel => exact ⟨k + 1, by omega, by go_num, by rw [HQ.out]⟩
      case measure => simp [intOf]; omega
    · obtain rfl : k = s.size := by omega
      have ht : s.data.toList.take s.size = s.data.toList := List.take_of_length_le (Nat.le_refl _)
      rw [ht]
      go_wp2_with fail
      go_ret
      exact ⟨rfl, H1.out.1, .inr H1.out.2⟩
end Go.Proofs.Ythacpfijoadclaa
