/- What perm's functions and the reference's functions answer, in plain numbers: the plain laws of bits of numbers. -/
import Derived.WalkKit
namespace Go.Proofs.Ytkffddaogogigaa
open Go.RowKit

theorem ret_int {k : IntKind} {a b : Int} (h : a = b) : Ending.returned (.int k a) = .returned (.int k b) := by rw [h]
theorem ret_bool {a b : Bool} (h : a = b) : Ending.returned (.bool a) = .returned (.bool b) := by rw [h]

/-- Behind a call that made memory: all that stood below B reads as before. The walk uses the two rules by itself. -/
theorem bcell {B : Nat} {W w1 : World} (hb : Below B W w1) : (∀ b o, b < B → w1.cell? ⟨b, o, none⟩ = W.cell? ⟨b, o, none⟩) ∧ (∀ b o, b < B → w1.frozen? ⟨b, o, none⟩ = W.frozen? ⟨b, o, none⟩) :=
  ⟨fun b o h => hb.cell (p := ⟨b, o, none⟩) h, fun b o h => hb.frozen (p := ⟨b, o, none⟩) h⟩

/-! ### bits of numbers -/
theorem wrap_toInt (b : BitVec 64) : IntKind.i64.wrap (b.toNat : Int) = b.toInt := by
  rw [IntKind.wrap_i64, BitVec.toInt_eq_toNat_cond]
  have := b.isLt
  split <;> omega
theorem ofInt_toInt (b : BitVec 64) : BitVec.ofInt 64 b.toInt = b := by simp
theorem bits_and_i64 (x y : Int) : bits .and .i64 x y = (BitVec.ofInt 64 x &&& BitVec.ofInt 64 y).toInt := by
  rw [← wrap_toInt]; rfl
theorem bits_or_i64 (x y : Int) : bits .or .i64 x y = (BitVec.ofInt 64 x ||| BitVec.ofInt 64 y).toInt := by
  rw [← wrap_toInt]; rfl
theorem bits_andNot_i64 (x y : Int) : bits .andNot .i64 x y = (BitVec.ofInt 64 x &&& ~~~BitVec.ofInt 64 y).toInt := by
  rw [← wrap_toInt]; rfl

theorem mask_mod (x : Int) (m i : Nat) (hm : m + 1 = 2 ^ i) (hi : i ≤ 60) : (BitVec.ofInt 64 x &&& BitVec.ofInt 64 (m : Int)).toNat = (x % 2 ^ i).toNat := by
  have h64 : 2 ^ i ≤ 2 ^ 60 := Nat.pow_le_pow_right (by decide) hi
  have e1 : m = 2 ^ i - 1 := by omega
  rw [BitVec.toNat_and, BitVec.toNat_ofInt, BitVec.toNat_ofInt]
  have hm2 : ((m : Int) % (2 ^ 64 : Nat)).toNat = m := by omega
  rw [hm2, e1, Nat.and_two_pow_sub_one_eq_mod]
  have hd : ((2 : Int) ^ i) ∣ ((2 ^ 64 : Nat) : Int) := by
    have : (2 ^ i : Nat) ∣ 2 ^ 64 := Nat.pow_dvd_pow 2 (by omega)
    have := Int.ofNat_dvd.2 this
    simpa using this
  have hp : (0 : Int) < (2 : Int) ^ i := by
    have : 0 < (2 : Nat) ^ i := Nat.two_pow_pos i
    have h2 : ((2 ^ i : Nat) : Int) = (2 : Int) ^ i := by simp
    omega
  have h2 : ((2 ^ i : Nat) : Int) = (2 : Int) ^ i := by simp
  rw [← Int.emod_emod_of_dvd x hd]
  have hz : 0 ≤ x % ((2 ^ 64 : Nat) : Int) := Int.emod_nonneg _ (by decide)
  obtain ⟨n, hn⟩ := Int.eq_ofNat_of_zero_le hz
  rw [hn, ← h2, Int.toNat_natCast, ← Int.natCast_emod, Int.toNat_natCast]

theorem and_mask (x : Int) (m i : Nat) (hm : m + 1 = 2 ^ i) (hi : i ≤ 60) : bits .and .i64 x (m : Int) = x % 2 ^ i := by
  have h := mask_mod x m i hm hi
  have h64 : 2 ^ i ≤ 2 ^ 60 := Nat.pow_le_pow_right (by decide) hi
  have h2 : ((2 ^ i : Nat) : Int) = (2 : Int) ^ i := by simp
  have hp : 0 < (2 : Nat) ^ i := Nat.two_pow_pos i
  have h0 : 0 ≤ x % (2 : Int) ^ i := Int.emod_nonneg _ (by omega)
  have h1 : x % (2 : Int) ^ i < (2 : Int) ^ i := Int.emod_lt_of_pos _ (by omega)
  rw [bits_and_i64, ← wrap_toInt, h, IntKind.wrap_i64]
  omega
theorem and1 (x : Int) : bits .and .i64 x 1 = x % 2 := and_mask x 1 1 rfl (by decide)
theorem and7 (x : Int) : bits .and .i64 x 7 = x % 8 := and_mask x 7 3 rfl (by decide)
theorem and511 (x : Int) : bits .and .i64 x 511 = x % 512 := and_mask x 511 9 rfl (by decide)

theorem and_zero (x : Int) : bits .and .i64 0 x = 0 := by
  rw [bits_and_i64]; simp

/-- '(has & (x | y)) = (has & x) | (has & y)' -/
theorem and_or (h x y : Int) : bits .and .i64 h (bits .or .i64 x y) = bits .or .i64 (bits .and .i64 h x) (bits .and .i64 h y) := by
  simp only [bits_and_i64, bits_or_i64, ofInt_toInt]
  congr 1
  apply BitVec.eq_of_getLsbD_eq
  intro i hi
  simp only [BitVec.getLsbD_and, BitVec.getLsbD_or]
  cases (BitVec.ofInt 64 h).getLsbD i <;> simp

/-! ### perm -/
def bitsF (mode uid gid cuid cgid : Int) : Int :=
  if cuid = 0 then 7 else if cuid = uid then mode / 64 % 8 else if cgid = gid then mode / 8 % 8 else mode % 8
theorem bitsF_range (m u g c d : Int) : 0 ≤ bitsF m u g c d ∧ bitsF m u g c d ≤ 7 := by
  unfold bitsF; (repeat' split) <;> omega
theorem bitsF_1 {m u g c d : Int} (h : (c == 0) = true) : 7 = bitsF m u g c d := by
  simp at h; simp [bitsF, h]
theorem bitsF_2 {m u g c d : Int} (h : (c == 0) = false) (h2 : (c == u) = true) : bits .and .i64 (m / 64) 7 = bitsF m u g c d := by
  simp at h h2; subst h2; simp [bitsF, h, and7]
theorem bitsF_3 {m u g c d : Int} (h : (c == 0) = false) (h2 : (c == u) = false) (h3 : (d == g) = true) : bits .and .i64 (m / 8) 7 = bitsF m u g c d := by
  simp at h h2 h3; simp [bitsF, h, h2, h3, and7]
theorem bitsF_4 {m u g c d : Int} (h : (c == 0) = false) (h2 : (c == u) = false) (h3 : (d == g) = false) : bits .and .i64 m 7 = bitsF m u g c d := by
  simp at h h2 h3; simp [bitsF, h, h2, h3, and7]

/-- 'want & 7 &^ b == 0': is every bit of want's lowest three one of b's? -/
def mayB (want b : Int) : Bool := bits .andNot .i64 (bits .and .i64 want 7) b == 0

theorem andNot_tab : ∀ w : Fin 8, ∀ b : Fin 8, (bits .andNot .i64 (w.val : Int) (b.val : Int) == 0) = ((w.val &&& b.val) == w.val) := by decide +kernel
theorem mayB_eq (want b : Int) (h0 : 0 ≤ b) (h1 : b ≤ 7) : mayB want b = (((want % 8).toNat &&& b.toNat) == (want % 8).toNat) := by
  have := andNot_tab ⟨(want % 8).toNat, by omega⟩ ⟨b.toNat, by omega⟩
  unfold mayB
  rw [and7]
  have e1 : (((want % 8).toNat : Nat) : Int) = want % 8 := by omega
  have e2 : ((b.toNat : Nat) : Int) = b := by omega
  simp only [e1, e2] at this
  exact this

theorem and_mod8 (x y : Int) : (bits .and .i64 x y % 8).toNat = ((x % 8).toNat &&& (y % 8).toNat) := by
  have h := and_mask (bits .and .i64 x y) 7 3 rfl (by decide)
  have hx := mask_mod x 7 3 rfl (by decide)
  have hy := mask_mod y 7 3 rfl (by decide)
  have hxy := mask_mod (bits .and .i64 x y) 7 3 rfl (by decide)
  have e : BitVec.ofInt 64 (bits .and .i64 x y) &&& BitVec.ofInt 64 ((7 : Nat) : Int) = (BitVec.ofInt 64 x &&& BitVec.ofInt 64 ((7 : Nat) : Int)) &&& (BitVec.ofInt 64 y &&& BitVec.ofInt 64 ((7 : Nat) : Int)) := by
    rw [bits_and_i64, ofInt_toInt]
    apply BitVec.eq_of_getLsbD_eq
    intro i hi
    simp only [BitVec.getLsbD_and]
    cases (BitVec.ofInt 64 x).getLsbD i <;> cases (BitVec.ofInt 64 y).getLsbD i <;> cases (BitVec.ofInt 64 ((7 : Nat) : Int)).getLsbD i <;> rfl
  rw [e, BitVec.toNat_and, hx, hy] at hxy
  exact hxy.symm

theorem may_less (want less b : Int) (h0 : 0 ≤ b) (h1 : b ≤ 7) (h : mayB want b = true) : mayB (bits .and .i64 want less) b = true := by
  rw [mayB_eq _ _ h0 h1] at h ⊢
  rw [and_mod8]
  have ha : (want % 8).toNat < 8 := by omega
  have hb : (less % 8).toNat < 8 := by omega
  have hc : b.toNat < 8 := by omega
  generalize (want % 8).toNat = u at *
  generalize (less % 8).toNat = v at *
  generalize b.toNat = c at *
  have t : ∀ u : Fin 8, ∀ v : Fin 8, ∀ c : Fin 8, ((u.val &&& c.val) == u.val) = true → (((u.val &&& v.val) &&& c.val) == (u.val &&& v.val)) = true := by decide +kernel
  exact t ⟨u, ha⟩ ⟨v, hb⟩ ⟨c, hc⟩ h
theorem may_zero (b : Int) (h0 : 0 ≤ b) (h1 : b ≤ 7) : mayB 0 b = true := by
  rw [mayB_eq _ _ h0 h1]; simp
end Go.Proofs.Ytkffddaogogigaa
