/- numbers of 32 bits; a register's step. -/
import Derived.Test.YthacpfijoadclaaProg
import Derived.WalkKit
import Derived.ProofKit
import Derived.Handy
import Derived.Lib.Hide
namespace Go.Proofs.Ythacpfijoadclaa
open Go Go.RowKit

abbrev W32 := BitVec 32
def turn : W32 := 2197175160#32
def odd (r : W32) : Bool := r.toNat % 2 == 1
def stepB (r : W32) : W32 := if odd r then (r >>> 1) ^^^ turn else r >>> 1
def stepN : Nat → W32 → W32
  | 0, r => r
  | n + 1, r => stepB (stepN n r)
theorem stepN_add (a b : Nat) (r : W32) : stepN (a + b) r = stepN a (stepN b r) := by
  induction a with
  | zero => rw [Nat.zero_add]; rfl
  | succ a ih => rw [Nat.succ_add]; simp only [stepN, ih]

/-! ### the model's own words -/
/-- a register as the model's number -/
def nv (r : W32) : Int := (r.toNat : Int)
theorem nv_lo (r : W32) : 0 ≤ nv r := by unfold nv; omega
theorem nv_hi (r : W32) : nv r ≤ 4294967295 := by
  have := r.isLt
  unfold nv; omega
theorem nv_inj {a b : W32} (h : nv a = nv b) : a = b := by
  unfold nv at h
  exact BitVec.eq_of_toNat_eq (by omega)
theorem toNat_shr (r : W32) (k : Nat) : (r >>> k).toNat = r.toNat / 2 ^ k := by rw [BitVec.toNat_ushiftRight, Nat.shiftRight_eq_div_pow]
theorem m_shr1 (r : W32) : nv r / (2 : Int) = nv (r >>> 1) := by unfold nv; rw [toNat_shr]; omega
theorem m_shr4 (r : W32) : nv r / (16 : Int) = nv (r >>> 4) := by unfold nv; rw [toNat_shr]; omega
theorem ofInt_nat (n : Nat) : BitVec.ofInt 32 (n : Int) = BitVec.ofNat 32 n := by
  apply BitVec.eq_of_toNat_eq
  rw [BitVec.toNat_ofInt, BitVec.toNat_ofNat]
  omega
theorem wrap_u32_nat (n : Nat) (h : n < 4294967296) : IntKind.u32.wrap (n : Int) = (n : Int) := by
  rw [IntKind.wrap_u32]; omega
theorem bits_u32_xor (x y : Nat) : bits .xor .u32 (x : Int) (y : Int) = nv (BitVec.ofNat 32 x ^^^ BitVec.ofNat 32 y) := by
  have h : bits .xor .u32 (x : Int) (y : Int) = IntKind.u32.wrap ((BitVec.ofInt 32 (x : Int) ^^^ BitVec.ofInt 32 (y : Int)).toNat : Int) := rfl
  rw [h, ofInt_nat, ofInt_nat]
  exact wrap_u32_nat _ (BitVec.isLt _)
theorem bits_u32_and (x y : Nat) : bits .and .u32 (x : Int) (y : Int) = nv (BitVec.ofNat 32 x &&& BitVec.ofNat 32 y) := by
  have h : bits .and .u32 (x : Int) (y : Int) = IntKind.u32.wrap ((BitVec.ofInt 32 (x : Int) &&& BitVec.ofInt 32 (y : Int)).toNat : Int) := rfl
  rw [h, ofInt_nat, ofInt_nat]
  exact wrap_u32_nat _ (BitVec.isLt _)
theorem m_xor (r q : W32) : bits .xor .u32 (nv r) (nv q) = nv (r ^^^ q) := by
  have h := bits_u32_xor r.toNat q.toNat
  rw [BitVec.ofNat_toNat, BitVec.ofNat_toNat, BitVec.setWidth_eq, BitVec.setWidth_eq] at h
  exact h
theorem m_turn (r : W32) : bits .xor .u32 (nv r) 2197175160 = nv (r ^^^ turn) := m_xor r turn
theorem m_all (r : W32) : bits .xor .u32 (nv r) 4294967295 = nv (r ^^^ 4294967295#32) := m_xor r 4294967295#32
def ofB (b : UInt8) : W32 := BitVec.ofNat 32 b.toNat
theorem nv_ofB (b : UInt8) : nv (ofB b) = (b.toNat : Int) := by
  have := b.toNat_lt
  unfold nv ofB
  rw [BitVec.toNat_ofNat, Nat.mod_eq_of_lt (by omega)]
theorem m_byte (r : W32) (b : UInt8) : bits .xor .u32 (nv r) (b.toNat : Int) = nv (r ^^^ ofB b) := by
  rw [← nv_ofB, m_xor]
theorem m_and1 (r : W32) : bits .and .u32 (nv r) 1 = if odd r then 1 else 0 := by
  have h := bits_u32_and r.toNat 1
  rw [show ((1 : Nat) : Int) = 1 from rfl] at h
  have h2 : nv r = (r.toNat : Int) := rfl
  rw [h2, h]
  unfold nv
  rw [BitVec.toNat_and]
  simp only [BitVec.toNat_ofNat]
  have h3 : r.toNat % 2 ^ 32 &&& 1 % 2 ^ 32 = r.toNat % 2 := by
    rw [Nat.mod_eq_of_lt r.isLt]
    exact Nat.and_one_is_mod _
  rw [h3]
  unfold odd
  by_cases h4 : r.toNat % 2 = 1
  · simp [h4]
  · have : r.toNat % 2 = 0 := by omega
    simp [this]
theorem m_rem2 (r : W32) : nv r % (2 : Int) = if odd r then 1 else 0 := by
  unfold nv odd
  by_cases h4 : r.toNat % 2 = 1
  · simp only [h4, beq_self_eq_true, if_true]; omega
  · have : r.toNat % 2 = 0 := by omega
    simp only [this]
    simp; omega
theorem m_sub (r : W32) : (4294967295 : Int) - nv r = nv (r ^^^ 4294967295#32) := by
  have h1 : r ^^^ 4294967295#32 = ~~~ r := by
    apply BitVec.eq_of_getLsbD_eq
    intro i hi
    rw [BitVec.getLsbD_xor, BitVec.getLsbD_not]
    have : (4294967295#32).getLsbD i = true := by
      have h2 : (4294967295#32) = BitVec.allOnes 32 := by decide
      rw [h2, BitVec.getLsbD_allOnes]; simpa using hi
    rw [this]; simp [hi]
  rw [h1]
  unfold nv
  rw [BitVec.toNat_not]
  have := r.isLt
  omega

/-! ### step -/
theorem step_any (r : W32) (w : World) : Calls Try.prog 24 #[.int .u32 (nv r)] w fun e w' => e = .returned (.int .u32 (nv (stepB r))) ∧ w = w' := by
  have h1 := m_and1 r
  have h2 := m_shr1 r
  have h3 := m_turn (r >>> 1)
  have h0 := nv_lo r
  have h9 := nv_hi r
  cases hr : odd r with
  | true =>
    have h5 : stepB r = (r >>> 1) ^^^ turn := by rw [stepB, if_pos hr]
    rw [h5]
    rw [hr] at h1
    go_enter Try.func24, Try.ntmps24
    go_wp2
    go_ret
    exact ⟨rfl, rfl⟩
  | false =>
    have h5 : stepB r = r >>> 1 := by rw [stepB, if_neg (by simp [hr])]
    rw [h5]
    rw [hr] at h1
    clear h3
    go_enter Try.func24, Try.ntmps24
    go_wp2
    go_ret
    exact ⟨rfl, rfl⟩
end Go.Proofs.Ythacpfijoadclaa
