/- NetNil: the walk. -/
import Derived.Test.YtdffghaledkfeaaNilWalk
import Derived.Test.YtdffghaledkfeaaLarge
namespace Go.Proofs.Ytdffghaledkfeaa
open Go Go.RowKit
set_option maxRecDepth 100000
set_option maxHeartbeats 4000000 in
theorem nil_walk (s : Stp) (hs : s.ok) (w : World) : Calls Try.prog 6 #[.agg #[.int .i64 s.k, .int .i64 s.i, .int .i64 s.p.f, .int .i64 s.p.t, .string s.p.d]] w fun e w' => e = .returned (.bool true) ∧ Below w.heap.size w w' := by
  have hrow : StepsAt ((w.alloc (stpObj s)).alloc (stpObj s)) (some ⟨w.heap.size + 1, 0, none⟩) [s] := by
    intro _
    have hh : ((w.alloc (stpObj s)).alloc (stpObj s)).heap[w.heap.size + 1]? = some (stpObj s) := heap_new_at _ _ (alloc_size _ _)
    refine ⟨w.heap.size + 1, 0, rfl, heap_lt hh, ?_⟩
    intro i hi j v hv
    simp at hi
    subst hi
    rw [row_cell hh]
    simpa [Stp.row] using hv
  have HL := Lib.hid (large_any (some ⟨w.heap.size + 1, 0, none⟩) [s] 1 _ (by simp [maxLen]) hrow (by intro x hx; simp at hx; subst hx; exact hs))
  have HD := Lib.hid (ndo_any s)
  have HW := Lib.hid way_nil
  have HC := Lib.hid (came_nil s.i)
  have HK := Lib.hid known_any
  clear hrow hs
  unfold stpObj at HL
  go_enter Try.func6, Try.ntmps6
  go_wp2_with fail
  refine HL.out.mono ?_
  rintro e w1 ⟨b, rfl, rfl, _⟩
  cases b
  · go_wp2_with fail
    refine (HD.out _).mono ?_
    rintro e w2 ⟨rfl, hb2⟩
    have hW : Below w.heap.size w ((w.alloc (stpObj s)).alloc (stpObj s)) := by unfold stpObj; go_grown
    have hh : ((w.alloc (stpObj s)).alloc (stpObj s)).heap[w.heap.size]? = some (stpObj s) := by
      rw [alloc_old _ _ _ (by rw [alloc_size]; omega)]
      exact heap_alloc_new w _
    have h2 : w2.heap[w.heap.size]? = some (stpObj s) := (hb2.block _ (heap_lt hh)).trans hh
    obtain ⟨c0, c1, c2, c3, c4⟩ := cell_s h2
    have hl := heap_lt h2
    have hl2 : ¬ w.heap.size = w2.heap.size := by omega
    have hb3 : Below w.heap.size w w2 := hW.trans (hb2.mono hW.size)
    have HB := Lib.hid hb3
    clear hW hh h2 hb2 hb3
    go_wp2_with fail
    refine (HW.out _).mono ?_
    rintro e w3 ⟨rfl, rfl⟩
    go_wp2_with fail
    refine (HC.out _).mono ?_
    rintro e w3 ⟨rfl, rfl⟩
    go_wp2_with fail
    refine (HK.out _).mono ?_
    rintro e w4 ⟨rfl, hb4⟩
    have HB4 := Lib.hid hb4
    clear hb4
    go_wp2_with fail
    go_returns
    have hg : Below w.heap.size w (w2.alloc (.cells #[.int .i64 0, .int .i64 0, .string ⟨#[]⟩] 23)) := HB.out.trans ((show Below w2.heap.size w2 (w2.alloc (.cells #[.int .i64 0, .int .i64 0, .string ⟨#[]⟩] 23)) by go_grown).mono HB.out.size)
    exact ⟨rfl, hg.trans (HB4.out.mono hg.size)⟩
  · go_wp2_with fail
    refine (HK.out _).mono ?_
    rintro e w2 ⟨rfl, hb2⟩
    have hW : Below w.heap.size w ((w.alloc (stpObj s)).alloc (stpObj s)) := by unfold stpObj; go_grown
    have HB := Lib.hid (hW.trans (hb2.mono hW.size))
    clear hW hb2
    go_wp2_with fail
    go_returns
    exact ⟨rfl, HB.out⟩
end Go.Proofs.Ytdffghaledkfeaa
