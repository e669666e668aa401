/- PermLess: the walk of the law. -/
import Derived.Test.YtkffddaogogigaaBase
import Derived.Test.YtkffddaogogigaaBits
import Derived.Test.YtkffddaogogigaaProg
import Derived.ProofKit
import Derived.Handy
namespace Go.Proofs.Ytkffddaogogigaa
open Go.RowKit

set_option maxHeartbeats 800000 in
theorem less_walk (a0 a1 a2 a3 a4 a5 a6 a7 a8 a9 c0 c1 c2 c3 want less : Int) (w : World) :
    Calls Try.prog 3 #[.agg #[.int .i64 a0, .int .i64 a1, .int .i64 a2, .int .i64 a3, .int .i64 a4, .int .i64 a5, .int .i64 a6, .int .i64 a7, .int .i64 a8, .int .i64 a9], .agg #[.int .i64 c0, .int .i64 c1, .int .i64 c2, .int .i64 c3], .int .i64 want, .int .i64 less] w
      fun e w' => e = .returned (.bool true) ∧ Below w.heap.size w w' := by
  obtain ⟨h0, h1⟩ := bitsF_range a1 a3 a4 c2 c3
  have hz := may_zero _ h0 h1
  have hl := may_less want less _ h0 h1
  generalize hB : bitsF a1 a3 a4 c2 c3 = B at *
  by_cases hm : mayB want B = true
  · have hl := hl hm
    go_enter Try.func3, Try.ntmps3
    go_wp2_with fail
    refine (may_any a0 a1 a2 a3 a4 a5 a6 a7 a8 a9 c0 c1 c2 c3 want _).mono ?_
    rw [hB, hm]
    rintro e w1 ⟨rfl, hb1⟩
    obtain ⟨hc1, -⟩ := bcell hb1
    have hz1 := hb1.size
    replace hb1 : Below w.heap.size w w1 := Below.trans (by go_grown) (hb1.mono (by simp; omega))
    simp at hz1
    have l1 : w.heap.size < w1.heap.size := by omega
    have l2 : w.heap.size + 1 < w1.heap.size := by omega
    go_wp2_with fail
    refine (may_any a0 a1 a2 a3 a4 a5 a6 a7 a8 a9 c0 c1 c2 c3 (bits .and .i64 want less) _).mono ?_
    rw [hB, hl]
    rintro e w2 ⟨rfl, hb2⟩
    obtain ⟨hc2, -⟩ := bcell hb2
    have hz2 := hb2.size
    have l3 : w.heap.size < w2.heap.size := by omega
    have l4 : w.heap.size + 1 < w2.heap.size := by omega
    replace hb2 : Below w.heap.size w w2 := hb1.trans (hb2.mono (by omega))
    clear hb1
    go_wp2_with fail
    refine (may_any a0 a1 a2 a3 a4 a5 a6 a7 a8 a9 c0 c1 c2 c3 0 _).mono ?_
    rw [hB, hz]
    rintro e w3 ⟨rfl, hb3⟩
    replace hb3 : Below w.heap.size w w3 := hb2.trans (hb3.mono (by omega))
    have hz3 := hb3.size
    clear hc1 hc2 hb2
    go_wp2_with fail
    refine (known_any _).mono ?_
    rintro e w4 ⟨rfl, hb4⟩
    go_wp2_with fail
    go_ret
    exact ⟨rfl, hb3.trans (hb4.mono hz3)⟩
  · have hm : mayB want B = false := by simpa using hm
    clear hl
    go_enter Try.func3, Try.ntmps3
    go_wp2_with fail
    refine (may_any a0 a1 a2 a3 a4 a5 a6 a7 a8 a9 c0 c1 c2 c3 want _).mono ?_
    rw [hB, hm]
    rintro e w1 ⟨rfl, hb1⟩
    obtain ⟨hc1, -⟩ := bcell hb1
    have hz1 := hb1.size
    replace hb1 : Below w.heap.size w w1 := Below.trans (by go_grown) (hb1.mono (by simp; omega))
    simp at hz1
    have l1 : w.heap.size < w1.heap.size := by omega
    have l2 : w.heap.size + 1 < w1.heap.size := by omega
    go_wp2_with fail
    refine (may_any a0 a1 a2 a3 a4 a5 a6 a7 a8 a9 c0 c1 c2 c3 0 _).mono ?_
    rw [hB, hz]
    rintro e w3 ⟨rfl, hb3⟩
    replace hb3 : Below w.heap.size w w3 := hb1.trans (hb3.mono (by omega))
    have hz3 := hb3.size
    clear hc1 hb1
    go_wp2_with fail
    refine (known_any _).mono ?_
    rintro e w4 ⟨rfl, hb4⟩
    go_wp2_with fail
    go_ret
    exact ⟨rfl, hb3.trans (hb4.mono hz3)⟩
end Go.Proofs.Ytkffddaogogigaa
