/- perm.Bits, perm.May, and what must come of the law's fixed calls: contracts. -/
import Derived.Test.YtkffddaogogigaaBase
import Derived.Test.YtkffddaogogigaaShow
import Derived.Test.YtkffddaogogigaaProg
import Derived.ProofKit
import Derived.Handy
namespace Go.Proofs.Ytkffddaogogigaa
open Go.RowKit

theorem bits_any (a0 a1 a2 a3 a4 a5 a6 a7 a8 a9 c0 c1 c2 c3 : Int) (w : World) :
    Calls Try.prog 10 #[.agg #[.int .i64 a0, .int .i64 a1, .int .i64 a2, .int .i64 a3, .int .i64 a4, .int .i64 a5, .int .i64 a6, .int .i64 a7, .int .i64 a8, .int .i64 a9], .agg #[.int .i64 c0, .int .i64 c1, .int .i64 c2, .int .i64 c3]] w
      fun e w' => e = .returned (.int .i64 (bitsF a1 a3 a4 c2 c3)) ∧ Below w.heap.size w w' := by
  go_enter Try.func10, Try.ntmps10
  go_wp2
  all_goals go_ret
  all_goals refine ⟨?_, by go_grown⟩
  all_goals refine ret_int ?_
  · exact bitsF_1 ‹_›
  · exact bitsF_2 ‹_› ‹_›
  · exact bitsF_3 ‹_› ‹_› ‹_›
  · exact bitsF_4 ‹_› ‹_› ‹_›

theorem may_any (a0 a1 a2 a3 a4 a5 a6 a7 a8 a9 c0 c1 c2 c3 want : Int) (w : World) :
    Calls Try.prog 8 #[.agg #[.int .i64 a0, .int .i64 a1, .int .i64 a2, .int .i64 a3, .int .i64 a4, .int .i64 a5, .int .i64 a6, .int .i64 a7, .int .i64 a8, .int .i64 a9], .agg #[.int .i64 c0, .int .i64 c1, .int .i64 c2, .int .i64 c3], .int .i64 want] w
      fun e w' => e = .returned (.bool (mayB want (bitsF a1 a3 a4 c2 c3))) ∧ Below w.heap.size w w' := by
  go_enter Try.func8, Try.ntmps8
  go_wp2_with fail
  refine (bits_any a0 a1 a2 a3 a4 a5 a6 a7 a8 a9 c0 c1 c2 c3 _).mono ?_
  rintro e w' ⟨rfl, hb⟩
  go_wp2_with fail
  go_ret
  exact ⟨rfl, Below.trans (by go_grown) (hb.mono (by simp; omega))⟩

theorem show_416 : showF 416 = ⟨#[114, 119, 45, 114, 45, 45, 45, 45, 45]⟩ := by decide +kernel
theorem bits_k1 : bitsF 416 1 2 1 2 = 6 := by decide
theorem bits_k2 : bitsF 416 1 2 3 2 = 4 := by decide
theorem bits_k3 : mayB 1 (bitsF 416 1 2 3 3) = false := by decide +kernel

theorem known_any (w : World) : Calls Try.prog 9 #[] w fun e w' => e = .returned (.bool true) ∧ Below w.heap.size w w' := by
  go_enter Try.func9, Try.ntmps9
  go_wp2_with fail
  refine (bits_any 1 416 0 1 2 0 0 0 0 0 0 0 1 2 _).mono ?_
  rw [bits_k1]
  rintro e w1 ⟨rfl, hb1⟩
  have hc1 : ∀ o, w1.cell? ⟨w.heap.size, o, none⟩ = (w.alloc (.cells #[.int .i64 1, .int .i64 416, .int .i64 0, .int .i64 1, .int .i64 2, .int .i64 0, .int .i64 0, .int .i64 0, .int .i64 0, .int .i64 0] 23)).cell? ⟨w.heap.size, o, none⟩ := fun o => hb1.cell (p := ⟨w.heap.size, o, none⟩) (by simp)
  have hz1 := hb1.size
  replace hb1 : Below w.heap.size w w1 := Below.trans (by go_grown) (hb1.mono (by simp))
  simp at hz1
  go_wp2_with fail
  refine (bits_any 1 416 0 1 2 0 0 0 0 0 0 0 3 2 _).mono ?_
  rw [bits_k2]
  rintro e w2 ⟨rfl, hb2⟩
  have hc2 : ∀ o, w2.cell? ⟨w.heap.size, o, none⟩ = w1.cell? ⟨w.heap.size, o, none⟩ := fun o => hb2.cell (p := ⟨w.heap.size, o, none⟩) (by show w.heap.size < _; omega)
  have hz2 := hb2.size
  replace hb2 : Below w.heap.size w w2 := Below.trans hb1 (hb2.mono (by omega))
  go_wp2_with fail
  refine (may_any 1 416 0 1 2 0 0 0 0 0 0 0 3 3 1 _).mono ?_
  rw [bits_k3]
  rintro e w3 ⟨rfl, hb3⟩
  replace hb3 : Below w.heap.size w w3 := Below.trans hb2 (hb3.mono (by omega))
  clear hb1 hb2 hc1 hc2
  go_wp2_with fail
  refine (show_any 416 _).mono ?_
  rw [show_416]
  rintro e w4 ⟨rfl, hb4⟩
  have hz3 := hb3.size
  replace hb4 : Below w.heap.size w w4 := Below.trans hb3 (hb4.mono (by omega))
  go_wp2_with fail
  go_ret
  exact ⟨rfl, hb4⟩
end Go.Proofs.Ytkffddaogogigaa
