/- posthouseref26.Table.Do. -/
import Derived.Test.YtbhiddppohbjhaaRPut2
namespace Go.Proofs.Ytbhiddppohbjhaa
open Go Go.RowKit Go.Maps Go.WideShapes Go.ChangeMaps Go.WideMaps Go.MapKept
set_option maxRecDepth 100000
section
variable {M : Tb} {h : Tok M}
structure D3 (M : Tb) (h : Tok M) (s : St) (w wr : World) : Prop where
  t : wr.heap[w.heap.size]? = some (.cells (tabA M h) 40)
  s : wr.heap[w.heap.size + 1]? = some (.cells s.arr 44)
  z : wr.heap[w.heap.size + 2]? = some (.cells zT 40)
  bl : Below w.heap.size w wr
theorem d3_start (s : St) (w : World) : D3 M h s w (((w.alloc (.cells (tabA M h) 40)).alloc (.cells s.arr 44)).alloc (.cells zT 40)) :=
  ⟨heap_old_at (heap_old_at (heap_alloc_new w _)), heap_old_at (heap_new_at _ _ (alloc_size _ _)), heap_new_at _ _ (by rw [alloc_size, alloc_size]), by go_grown⟩
theorem D3.below {s : St} {w wr w2 : World} (x : D3 M h s w wr) (hb : Below wr.heap.size wr w2) : D3 M h s w w2 :=
  ⟨(hb.block _ (heap_lt x.t)).trans x.t, (hb.block _ (heap_lt x.s)).trans x.s, (hb.block _ (heap_lt x.z)).trans x.z, x.bl.trans (hb.mono x.bl.size)⟩
theorem D3.cells {s : St} {w wr : World} (x : D3 M h s w wr) : wr.cell? ⟨w.heap.size + 1, 0, none⟩ = some (.int .i64 s.k) ∧ wr.cell? ⟨w.heap.size + 1, 1, none⟩ = some (.int .i64 s.c) ∧ wr.cell? ⟨w.heap.size + 1, 2, none⟩ = some (.int .i64 s.n) ∧ wr.cell? ⟨w.heap.size + 1, 3, none⟩ = some (.int .i64 s.m) := by
  refine ⟨?_, ?_, ?_, ?_⟩ <;> (rw [row_cell x.s]; rfl)
set_option maxHeartbeats 8000000 in
/-- nobody there: nothing done -/
theorem rdo_none {s : St} (hs : s.ok) (h1 : s.k ≠ 1) (hm : M s.c = none) (w : World) : Calls Try.prog 9 #[.agg (tabA M h), .agg s.arr] w (RTV M h false w) := by
  have hof := fun w => rof_any (M := M) (h := h) s.c w
  rw [hm] at hof
  have HOF := Lib.hid hof
  have HD := Lib.hid (d3_start (M := M) (h := h) s w)
  have a0 : s.arr[0]? = some (.int .i64 s.k) := rfl
  have a1 : s.arr[1]? = some (.int .i64 s.c) := rfl
  have e1 : (s.k == 1) = false := by simp [h1]
  clear hof hm h1 hs
  go_enter Try.func9, Try.ntmps9
  go_wp2_with (first
    | (refine pw_alloc40 rfl rfl ?_)
    | (refine pw_load40 rfl (.tmp 2) rfl w.heap.size rfl (tabA M h) (tab_size M h) HD.out.t ?_))
  refine (HOF.out _).mono ?_
  rintro e w1 ⟨rfl, hb1⟩
  have hb2 := hb1.trans ((show Below w1.heap.size w1 (w1.alloc (.cells zP.arr 37)) by go_grown).mono hb1.size)
  have HD1 := Lib.hid (HD.out.below hb2)
  clear hb1 hb2
  go_wp2_with (first
    | (refine pw_put _ 6 (.tmp 22) rfl rfl rfl rfl rfl rfl zP zP_ok rfl rfl ?_)
    | (refine pw_load40 rfl (.tmp 2) rfl w.heap.size rfl (tabA M h) (tab_size M h) HD1.out.t ?_)
    | (refine pw_store40 rfl (.tmp 4) (.tmp 26) rfl (w.heap.size + 2) (tabA M h) (tab_size M h) (tab_all M h) zT zT_size rfl rfl HD1.out.z ?_; intro w2 hb2 hg2 hs2))
  (try simp only [Exit.inBlock, Exit.then])
  refine bodyPost_ret (res_tab Try.results9 _ _ (w.heap.size + 2) (tabA M h) (tab_size M h) _ rfl rfl hb2) rfl ?_
  exact ⟨rfl, HD1.out.bl.grown hg2 HD1.out.bl.size (fun j hj => by cases hj; omega)⟩
set_option maxHeartbeats 8000000 in
/-- another kind of step: nothing done -/
theorem rdo_else {s : St} (hs : s.ok) (h1 : s.k ≠ 1) (h2 : s.k ≠ 2) (h3 : s.k ≠ 3) (h4 : s.k ≠ 4) {p : Pd} (hm : M s.c = some p) (w : World) : Calls Try.prog 9 #[.agg (tabA M h), .agg s.arr] w (RTV M h false w) := by
  have hof := fun w => rof_any (M := M) (h := h) s.c w
  rw [hm] at hof
  have HOF := Lib.hid hof
  have HD := Lib.hid (d3_start (M := M) (h := h) s w)
  have hok := h.ok _ _ hm
  have HOK := Lib.hid hok
  have a0 : s.arr[0]? = some (.int .i64 s.k) := rfl
  have a1 : s.arr[1]? = some (.int .i64 s.c) := rfl
  have e1 : (s.k == 1) = false := by simp [h1]
  have e2 : (s.k == 2) = false := by simp [h2]
  have e3 : (s.k == 3) = false := by simp [h3]
  have e4 : (s.k == 4) = false := by simp [h4]
  clear hof hm h1 h2 h3 h4 hs hok
  go_enter Try.func9, Try.ntmps9
  go_wp2_with (first
    | (refine pw_alloc40 rfl rfl ?_)
    | (refine pw_load40 rfl (.tmp 2) rfl w.heap.size rfl (tabA M h) (tab_size M h) HD.out.t ?_))
  refine (HOF.out _).mono ?_
  rintro e w1 ⟨rfl, hb1⟩
  have hb2 := hb1.trans ((show Below w1.heap.size w1 (w1.alloc (.cells p.arr 37)) by go_grown).mono hb1.size)
  have HD1 := Lib.hid (HD.out.below hb2)
  have c0 := HD1.out.cells.1
  clear hb1 hb2
  go_wp2_with (first
    | (refine pw_put _ 6 (.tmp 22) rfl rfl rfl rfl rfl rfl p HOK.out rfl rfl ?_)
    | (refine pw_load40 rfl (.tmp 2) rfl w.heap.size rfl (tabA M h) (tab_size M h) HD1.out.t ?_)
    | (refine pw_store40 rfl (.tmp 4) (.tmp 29) rfl (w.heap.size + 2) (tabA M h) (tab_size M h) (tab_all M h) zT zT_size rfl rfl HD1.out.z ?_; intro w2 hb2 hg2 hs2))
  (try simp only [Exit.inBlock, Exit.then])
  refine bodyPost_ret (res_tab Try.results9 _ _ (w.heap.size + 2) (tabA M h) (tab_size M h) _ rfl rfl hb2) rfl ?_
  exact ⟨rfl, HD1.out.bl.grown hg2 HD1.out.bl.size (fun j hj => by cases hj; omega)⟩
set_option maxHeartbeats 8000000 in
theorem rdo_put {s : St} (hs : s.ok) (h1 : s.k = 1) {R : Tb} {b : Bool} (hR : Tok R) (hput : ∀ w, Calls Try.prog 24 #[.agg (tabA M h), .agg s.p.arr] w (RTV R hR b w)) (w : World) : Calls Try.prog 9 #[.agg (tabA M h), .agg s.arr] w (RTV R hR b w) := by
  have HPUT' := Lib.hid hput
  have HD := Lib.hid (d3_start (M := M) (h := h) s w)
  have HPO := Lib.hid hR
  have HPS := Lib.hid hs.p
  have a0 : s.arr[0]? = some (.int .i64 s.k) := rfl
  rw [h1] at a0
  clear h1 hput
  go_enter Try.func9, Try.ntmps9
  go_wp2_with (first
    | (refine pw_alloc40 rfl rfl ?_)
    | (refine pw_load40 rfl (.tmp 2) rfl w.heap.size rfl (tabA M h) (tab_size M h) HD.out.t ?_)
    | (refine pw_load_mid rfl (.tmp 12) rfl (w.heap.size + 1) 4 rfl s.p HPS.out (St.range HD.out.s) ?_))
  refine (HPUT'.out _).mono ?_
  rintro e w1 ⟨rfl, hb1⟩
  have HD1 := Lib.hid (HD.out.below hb1)
  clear hb1
  go_wp2_with (first
    | (refine pw_store40 rfl (.tmp 4) (.tmp 15) rfl (w.heap.size + 2) (tabA R HPO.out) (tab_size _ _) (tab_all _ _) zT zT_size rfl rfl HD1.out.z ?_; intro w2 hb2 hg2 hs2))
  (try simp only [Exit.inBlock, Exit.then])
  refine bodyPost_ret (res_tab Try.results9 _ _ (w.heap.size + 2) (tabA R HPO.out) (tab_size _ _) (.bool b) rfl rfl hb2) rfl ?_
  exact ⟨rfl, HD1.out.bl.grown hg2 HD1.out.bl.size (fun j hj => by cases hj; omega)⟩
theorem drop_row {w2 : World} {q n : Nat} {h' : Tok (upd M (n : Int) none)} (h1 : 1 ≤ n) (h4 : n ≤ 4) (hc : w2.heap[q]? = some (.cells (overl ((tabA M h).setIfInBounds n (.bool false)) (5 + n * 34) zP.cells) 40)) : w2.heap[q]? = some (.cells (tabA (upd M (n : Int) none) h') 40) := by
  rw [← tab_upd (h := h) h1 h4 h' (show (vOf none).ok from zP_ok)]
  exact hc
theorem turn_row {w2 : World} {q n : Nat} {p r : Pd} {h' : Tok (upd M (n : Int) (some r))} (h1 : 1 ≤ n) (h4 : n ≤ 4) (hp : M n = some p) (hr : r.ok) (hc : w2.heap[q]? = some (.cells (overl (tabA M h) (5 + n * 34) r.cells) 40)) : w2.heap[q]? = some (.cells (tabA (upd M (n : Int) (some r)) h') 40) := by
  rw [← tab_turn (h := h) h1 h4 hp h' hr]
  exact hc
set_option maxHeartbeats 16000000 in
theorem rdo_drop {s : St} (hs : s.ok) (h2 : s.k = 2) (n : Nat) (hn1 : 1 ≤ n) (hn4 : n ≤ 4) (hc : s.c = n) {p : Pd} (hm : M (n : Int) = some p) (w : World) : Calls Try.prog 9 #[.agg (tabA M h), .agg s.arr] w fun e w' => RTV (upd M (n : Int) none) (del_ok h n) true w e w' := by
  have hof := fun w => rof_any (M := M) (h := h) s.c w
  rw [hc, hm] at hof
  have HOF := Lib.hid hof
  have HD := Lib.hid (d3_start (M := M) (h := h) s w)
  have HOK := Lib.hid (h.ok _ _ hm)
  have HPO := Lib.hid (del_ok h (n : Int))
  have a0 : s.arr[0]? = some (.int .i64 s.k) := rfl
  have a1 : s.arr[1]? = some (.int .i64 s.c) := rfl
  rw [h2] at a0
  rw [hc] at a1
  have hn5 : n < 5 := by omega
  have HC := Lib.hid (And.intro h2 hc)
  clear hof h2 hc hs hm
  go_enter Try.func9, Try.ntmps9
  go_wp2_with (first
    | (refine pw_alloc40 rfl rfl ?_)
    | (refine pw_load40 rfl (.tmp 2) rfl w.heap.size rfl (tabA M h) (tab_size M h) HD.out.t ?_))
  refine (HOF.out _).mono ?_
  rintro e w1 ⟨rfl, hb1⟩
  have hb2 := hb1.trans ((show Below w1.heap.size w1 (w1.alloc (.cells p.arr 37)) by go_grown).mono hb1.size)
  have hd1 := HD.out.below hb2
  have c0 := hd1.cells.1
  have c1 := hd1.cells.2.1
  rw [HC.out.1] at c0
  rw [HC.out.2] at c1
  have his := tb_is hd1.t hn1 hn4
  have hfr : (w1.alloc (.cells p.arr 37)).frozen? ⟨w.heap.size, n, none⟩ = false := row_froz hd1.t n
  have hx1 := setCell_heap hd1.t n (.bool false)
  have hx3 : ((w1.alloc (.cells p.arr 37)).setCell ⟨w.heap.size, n, none⟩ (.bool false)).heap[w.heap.size + 2]? = some (.cells zT 40) := (Below.heap_setCell _ _ _ _ (by simp)).trans hd1.z
  have hx2 : ((w1.alloc (.cells p.arr 37)).setCell ⟨w.heap.size, n, none⟩ (.bool false)).heap[w.heap.size + 1]? = some (.cells s.arr 44) := (Below.heap_setCell _ _ _ _ (by simp)).trans hd1.s
  have c1' : ((w1.alloc (.cells p.arr 37)).setCell ⟨w.heap.size, n, none⟩ (.bool false)).cell? ⟨w.heap.size + 1, 1, none⟩ = some (.int .i64 (n : Int)) := by rw [row_cell hx2]; exact a1
  have hbs : Below w.heap.size w ((w1.alloc (.cells p.arr 37)).setCell ⟨w.heap.size, n, none⟩ (.bool false)) := hd1.bl.setCell (by simp) _
  have HB := Lib.hid (And.intro hx1 (And.intro hx3 hbs))
  clear hb1 hb2 hd1 hx1 hx2 hx3 hbs
  go_wp2_with (first
    | (refine pw_put _ 6 (.tmp 22) rfl rfl rfl rfl rfl rfl p HOK.out rfl rfl ?_)
    | (refine pw_build rfl rfl ?_)
    | (refine pw_row rfl (.tmp 40) (.tmp 38) rfl w.heap.size (5 + n * 34) zP zP_ok _ (by rw [Array.size_setIfInBounds, tab_size]; omega) rfl rfl HB.out.1 ?_; intro w2 hc2 hg2 hs2; have HR := Lib.hid (drop_row (h' := HPO.out) hn1 hn4 hc2); have HZ := Lib.hid ((hg2.block _ (heap_lt HB.out.2.1) (by simp)).trans HB.out.2.1); have HBL := Lib.hid (HB.out.2.2.grown hg2 HB.out.2.2.size (fun j hj => by cases hj; exact Nat.le_refl _)); clear hc2 hg2)
    | (refine pw_load40 rfl (.tmp 2) rfl w.heap.size rfl (tabA (upd M (n : Int) none) HPO.out) (tab_size _ _) HR.out ?_)
    | (refine pw_store40 rfl (.tmp 4) (.tmp 77) rfl (w.heap.size + 2) (tabA (upd M (n : Int) none) HPO.out) (tab_size _ _) (tab_all _ _) zT zT_size rfl rfl HZ.out ?_; intro w4 hb4 hg4 hs4))
  (try simp only [Exit.inBlock, Exit.then])
  refine bodyPost_ret (res_tab Try.results9 _ _ (w.heap.size + 2) (tabA (upd M (n : Int) none) HPO.out) (tab_size _ _) (.bool true) rfl rfl hb4) rfl ?_
  exact ⟨rfl, HBL.out.grown hg4 HBL.out.size (fun j hj => by cases hj; omega)⟩
set_option maxHeartbeats 16000000 in
theorem rdo_later {s : St} (hs : s.ok) (h2 : s.k = 4) (n : Nat) (hn1 : 1 ≤ n) (hn4 : n ≤ 4) (hc : s.c = n) {p : Pd} (hm : M (n : Int) = some p) {r : Pd} (hr : r = { p with du := s.n }) (h' : Tok (upd M (n : Int) (some r))) (w : World) : Calls Try.prog 9 #[.agg (tabA M h), .agg s.arr] w fun e w' => RTV (upd M (n : Int) (some r)) h' true w e w' := by
  have hof := fun w => rof_any (M := M) (h := h) s.c w
  rw [hc, hm] at hof
  have HOF := Lib.hid hof
  have HD := Lib.hid (d3_start (M := M) (h := h) s w)
  have HOK := Lib.hid (h.ok _ _ hm)
  have HOK2 := Lib.hid (h'.ok n r (upd_same _ _ _))
  have hA := Lib.hid (later_arr p s.n)
  rw [← hr] at hA
  have a0 : s.arr[0]? = some (.int .i64 s.k) := rfl
  have a1 : s.arr[1]? = some (.int .i64 s.c) := rfl
  rw [h2] at a0
  rw [hc] at a1
  have hn5 : n < 5 := by omega
  have HC := Lib.hid (And.intro h2 (And.intro hc hm))
  clear hof h2 hc hs hm hr
  go_enter Try.func9, Try.ntmps9
  go_wp2_with (first
    | (refine pw_alloc40 rfl rfl ?_)
    | (refine pw_load40 rfl (.tmp 2) rfl w.heap.size rfl (tabA M h) (tab_size M h) HD.out.t ?_))
  refine (HOF.out _).mono ?_
  rintro e w1 ⟨rfl, hb1⟩
  have hb2 := hb1.trans ((show Below w1.heap.size w1 (w1.alloc (.cells p.arr 37)) by go_grown).mono hb1.size)
  have hd1 := HD.out.below hb2
  have hb3 := hb1.trans ((show Below w1.heap.size w1 (w1.alloc (.cells r.arr 37)) by go_grown).mono hb1.size)
  have hd2 := HD.out.below hb3
  have c0 := hd1.cells.1
  have c1 := hd1.cells.2.1
  have c2 := hd1.cells.2.2.1
  rw [HC.out.1] at c0
  rw [HC.out.2.1] at c1
  have c1' : (w1.alloc (.cells (p.arr.setIfInBounds 9 (.int .i64 s.n)) 37)).cell? ⟨w.heap.size + 1, 1, none⟩ = some (.int .i64 (n : Int)) := by rw [hA.out]; exact (hd2.cells.2.1).trans (by rw [HC.out.2.1])
  have HB := Lib.hid hd2
  clear hb1 hb2 hb3 hd1 hd2
  go_wp2_with (first
    | (refine pw_put _ 6 (.tmp 22) rfl rfl rfl rfl rfl rfl p HOK.out rfl rfl ?_)
    | (refine pw_load rfl (.tmp 6) rfl w1.heap.size rfl r HOK2.out (by rw [hA.out]; exact heap_alloc_new _ _) ?_)
    | (refine pw_row rfl (.tmp 76) (.tmp 74) rfl w.heap.size (5 + n * 34) r HOK2.out (tabA M h) (by rw [tab_size]; omega) rfl rfl (by rw [hA.out]; exact HB.out.t) ?_; intro w2 hc2 hg2 hs2; rw [hA.out] at hg2; have HR := Lib.hid (turn_row (h' := h') hn1 hn4 HC.out.2.2 HOK2.out hc2); have HZ := Lib.hid ((hg2.block _ (heap_lt HB.out.z) (by simp)).trans HB.out.z); have HBL := Lib.hid (HB.out.bl.grown hg2 HB.out.bl.size (fun j hj => by cases hj; exact Nat.le_refl _)); clear hc2 hg2)
    | (refine pw_load40 rfl (.tmp 2) rfl w.heap.size rfl (tabA (upd M (n : Int) (some r)) h') (tab_size _ _) HR.out ?_)
    | (refine pw_store40 rfl (.tmp 4) (.tmp 77) rfl (w.heap.size + 2) (tabA (upd M (n : Int) (some r)) h') (tab_size _ _) (tab_all _ _) zT zT_size rfl rfl HZ.out ?_; intro w4 hb4 hg4 hs4))
  (try simp only [Exit.inBlock, Exit.then])
  refine bodyPost_ret (res_tab Try.results9 _ _ (w.heap.size + 2) (tabA (upd M (n : Int) (some r)) h') (tab_size _ _) (.bool true) rfl rfl hb4) rfl ?_
  exact ⟨rfl, HBL.out.grown hg4 HBL.out.size (fun j hj => by cases hj; omega)⟩
end
end Go.Proofs.Ytbhiddppohbjhaa
