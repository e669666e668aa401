/- perm.Show: what it answers for every mode, and that it does. -/
import Derived.Test.YtkffddaogogigaaBase
import Derived.Test.YtkffddaogogigaaProg
import Derived.ProofKit
import Derived.Handy
import Derived.Laws.IdiomStrings
import Derived.Lib.SlBytesConst
namespace Go.Proofs.Ytkffddaogogigaa
open Go.RowKit

def letter (j : Nat) : UInt8 := ([114, 119, 120, 114, 119, 120, 114, 119, 120] : List UInt8).getD j 0
def showAt (mode : Int) (j : Nat) : UInt8 := if mode / 2 ^ (8 - j) % 2 = 0 then 45 else letter j
/-- what stands in the row behind k rounds -/
def rowList (mode : Int) (k : Nat) : List UInt8 := (List.range 9).map fun j => if j < k then showAt mode j else letter j
def rowAt (mode : Int) (k : Nat) : Array Value := ((rowList mode k).map fun b => Value.int .u8 (b.toNat : Int)).toArray
def showF (mode : Int) : ByteArray := ⟨(rowList mode 9).toArray⟩

theorem rowAt_size (m : Int) (k : Nat) : (rowAt m k).size = 9 := by simp [rowAt, rowList]
theorem rowAt_get (m : Int) (k j : Nat) (h : j < 9) : (rowAt m k)[j]? = some (.int .u8 (((if j < k then showAt m j else letter j).toNat : Nat) : Int)) := by
  simp [rowAt, rowList, h]
theorem rowAt_0 (m : Int) : rowAt m 0 = #[.int .u8 114, .int .u8 119, .int .u8 120, .int .u8 114, .int .u8 119, .int .u8 120, .int .u8 114, .int .u8 119, .int .u8 120] := by
  simp [rowAt, rowList, letter, List.range_succ]
theorem rowAt_dash (m : Int) (k : Nat) (h : m / 2 ^ (8 - k) % 2 = 0) : (rowAt m k).setIfInBounds k (.int .u8 45) = rowAt m (k + 1) := by
  apply Array.ext_getElem?
  intro j
  by_cases hj : j < 9
  · rw [rowAt_get _ _ _ hj]
    by_cases e : k = j
    · subst e; rw [Array.getElem?_setIfInBounds_self_of_lt (by rw [rowAt_size]; exact hj)]; simp [showAt, h]
    · rw [Array.getElem?_setIfInBounds_ne (by omega), rowAt_get _ _ _ hj]
      by_cases h1 : j < k
      · rw [if_pos h1, if_pos (by omega)]
      · rw [if_neg h1, if_neg (by omega)]
  · simp [rowAt, rowList, hj]
theorem rowAt_keep (m : Int) (k : Nat) (h : ¬ m / 2 ^ (8 - k) % 2 = 0) : rowAt m k = rowAt m (k + 1) := by
  apply Array.ext_getElem?
  intro j
  by_cases hj : j < 9
  · rw [rowAt_get _ _ _ hj, rowAt_get _ _ _ hj]
    by_cases e : k = j
    · subst e; simp [showAt, h]
    · by_cases h1 : j < k
      · rw [if_pos h1, if_pos (by omega)]
      · rw [if_neg h1, if_neg (by omega)]
  · simp [rowAt, rowList, hj]

theorem store_alloc (w : World) (C : Array Value) (t : TypeId) (fr : Nat × Nat) (k : Nat) (v : Value) :
    (w.alloc (.cells C t fr)).setCell ⟨w.heap.size, k, none⟩ v = w.alloc (.cells (C.setIfInBounds k v) t fr) := by
  unfold World.setCell World.alloc
  simp only [World.mk.injEq, and_true]
  apply Array.ext_getElem?
  intro j
  simp only [Array.getElem?_modify, Array.getElem?_push]
  by_cases h : j = w.heap.size
  · subst h; simp
  · have h' : ¬ w.heap.size = j := fun e => h e.symm
    simp [h, h']

theorem show_hb (m : Int) (w : World) (k : Nat) (hk : k < 9) : (w.alloc (.cells (rowAt m k) 5 (9, 10))).cell? ⟨w.heap.size, k, none⟩ = some (.int .u8 ((letter k).toNat : Nat)) := by
  rw [World.cell?_alloc_mark, rowAt_get _ _ _ hk]; simp
theorem show_fz (m : Int) (w : World) (k : Nat) (hk : k < 9) : (w.alloc (.cells (rowAt m k) 5 (9, 10))).frozen? ⟨w.heap.size, k, none⟩ = false := by
  rw [World.frozen?_alloc_mark]; simp; omega
theorem show_conv (m : Int) (w : World) : (convert 39 9 (.slice (some ⟨w.heap.size, 0, none⟩) 9 9)).run Try.prog (w.alloc (.cells (rowAt m 9) 5 (9, 10))) = .ok (.string (showF m)) (w.alloc (.cells (rowAt m 9) 5 (9, 10))) := by
  have := run_convert_bytes_back (P := Try.prog) (w.alloc (.cells (rowAt m 9) 5 (9, 10))) 39 9 5 ⟨w.heap.size, 0, none⟩ 9 (rowList m 9) Try.underlying39 Try.underlying5 Try.underlying9 (fun j hj => by
    have hj9 : j < 9 := by simpa [rowList] using hj
    have hp : (⟨w.heap.size, 0, none⟩ : Addr).add j = ⟨w.heap.size, j, none⟩ := by unfold Addr.add; split <;> simp_all
    rw [hp, World.cell?_alloc_mark, rowAt_get _ _ _ hj9]
    simp [rowList])
  simpa [rowList, showF] using this

set_option maxHeartbeats 400000 in
theorem show_any (m : Int) (w : World) :
    Calls Try.prog 14 #[.int .i64 m] w fun e w' => e = .returned (.string (showF m)) ∧ Below w.heap.size w w' := by
  have kc := fun (w : World) (C : Array Value) (n c : Nat) => Lib.run_convert_bytes_const (P := Try.prog) w 39 5 C n c Try.underlying39 Try.underlying5
  go_enter Try.func14, Try.ntmps14
  go_wp2
  clear kc
  go_loopw [9] (fun i wr => ∃ k : Nat, k ≤ 9 ∧ i = .int .i64 k ∧ wr = w.alloc (.cells (rowAt m k) 5 (9, 10))) (fun i _ => 9 - (intOf i).toNat)
  case atStart => exact ⟨0, by omega, rfl, by rw [rowAt_0]⟩
  case round =>
    obtain ⟨k, hk, rfl, rfl⟩ := hrel
    by_cases hlt : k < 9
    · have h1 := show_hb m w k hlt
      have h2 := show_fz m w k hlt
      go_wp2
      · have h : (bits BinOp.and IntKind.i64 (m / 2 ^ (8 - k)) 1 == 0) = true := by assumption
        rw [store_alloc, rowAt_dash m k (by rw [and1] at h; simpa using h)]
        go_roundw
        case rel => exact ⟨k + 1, by omega, by go_num, rfl⟩
        case measure => simp [intOf]; omega
      · have h : (bits BinOp.and IntKind.i64 (m / 2 ^ (8 - k)) 1 == 0) = false := by assumption
        rw [rowAt_keep m k (by rw [and1] at h; simpa using h)]
        go_roundw
        case rel => exact ⟨k + 1, by omega, by go_num, rfl⟩
        case measure => simp [intOf]; omega
    · obtain rfl : k = 9 := by omega
      have h3 := show_conv m w
      go_wp2
      go_ret
      exact ⟨rfl, by go_grown⟩
end Go.Proofs.Ytkffddaogogigaa
