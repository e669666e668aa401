/- index: caches in memory; what is asked of them. -/
import Derived.Test.YtokhnbdhcehonaaGreatFd
import Derived.Test.YtokhnbdhcehonaaGreatPd
set_option linter.unusedSimpArgs false
set_option linter.unusedVariables false
namespace Go.Proofs.YtokhnbdhcehonaaGreat
open Go Go.RowKit Row
set_option maxRecDepth 100000
structure Ca where
  hs : List Hd
  fs : List Fl
  ns : List Nm
  bs : List Bl
structure CaAt (w : World) (cv : Cv) (c : Ca) : Prop where
  hs : Rs w 0 cv.a.v c.hs
  fs : Rs w 0 cv.b.v c.fs
  ns : Rs w 0 cv.c.v c.ns
  bs : Rs w 0 cv.d.v c.bs
theorem CaAt.below {w w' : World} {cv : Cv} {c : Ca} (h : CaAt w cv c) (hb : Below w.heap.size w w') : CaAt w' cv c := ⟨h.hs.below hb, h.fs.below hb, h.ns.below hb, h.bs.below hb⟩
/-- each list rises -/
structure Rises (c : Ca) : Prop where
  hs : Srt kH lH c.hs
  fs : Srt kF lF c.fs
  ns : Srt kN lN c.ns
  bs : Srt kB lB c.bs
theorem cv_cells {w : World} {b : Nat} {cv : Cv} {t : TypeId} (h : w.heap[b]? = some (.cells (arr cv) t)) : w.cell? ⟨b, 0, none⟩ = some cv.a.v ∧ w.cell? ⟨b, 1, none⟩ = some cv.b.v ∧ w.cell? ⟨b, 2, none⟩ = some cv.c.v ∧ w.cell? ⟨b, 3, none⟩ = some cv.d.v :=
  ⟨by rw [row_cell h]; rfl, by rw [row_cell h]; rfl, by rw [row_cell h]; rfl, by rw [row_cell h]; rfl⟩
theorem bel_box {w : World} {o : Obj} : Below w.heap.size w (w.alloc o) := by go_grown
set_option maxHeartbeats 4000000 in
theorem holds_any {c : Ca} {cv : Cv} {w : World} (h : CaAt w cv c) (hs : Srt kH lH c.hs) (e s : Int) :
    Calls Tryz.prog 15 #[.agg (arr cv), .int .i64 e, .int .i64 s] w fun r w' => r = .returned (.tuple #[.string ((find kH c.hs (e, s)).getD RowT.z).up, .bool (find kH c.hs (e, s)).isSome]) ∧ Below w.heap.size w w' := by
  have c0 := (cv_cells (heap_alloc_new w (.cells (arr cv) 30))).1
  have HF := Lib.hid (fd_Hd ⟨e, s, ⟨#[]⟩⟩ hs (h.hs.below (bel_box (o := .cells (arr cv) 30))))
  clear h hs
  change Hid (Calls _ _ _ _ fun r w' => r = .returned (.tuple #[.agg (arr ((find kH c.hs (e, s)).getD RowT.z)), .bool (find kH c.hs (e, s)).isSome]) ∧ _) at HF
  generalize (find kH c.hs (e, s)).isSome = b at HF ⊢
  generalize (find kH c.hs (e, s)).getD RowT.z = y at HF ⊢
  go_enter Tryz.func15, Tryz.ntmps15
  go_wp2_with fail
  refine HF.out.mono ?_
  rintro r w1 ⟨rfl, hb1⟩
  have HB1 := Lib.hid ((bel_box (w := w)).trans (hb1.mono bel_box.size))
  have y2 : (w1.alloc (.cells (arr y) (RowT.T Hd))).cell? ⟨w1.heap.size, 2, none⟩ = some (.string y.up) := by rw [row_cell (heap_alloc_new w1 _)]; rfl
  clear hb1 c0
  go_wp2_with (refine rw_put (α := Hd) _ 8 (.tmp 17) rfl rfl rfl rfl rfl rfl y rfl rfl ?_)
  go_ret2
  exact ⟨rfl, HB1.out.trans (bel_box.mono HB1.out.size)⟩
set_option maxHeartbeats 4000000 in
theorem file_any {c : Ca} {cv : Cv} {w : World} (h : CaAt w cv c) (hs : Srt kF lF c.fs) (u : ByteArray) :
    Calls Tryz.prog 19 #[.agg (arr cv), .string u] w fun r w' => r = .returned (.tuple #[.agg (arr ((find kF c.fs u).getD RowT.z).a), .bool (find kF c.fs u).isSome]) ∧ Below w.heap.size w w' := by
  obtain ⟨W, hW⟩ : ∃ W, W = (w.alloc (.cells (arr cv) 30)).alloc (.cells (arr (RowT.z : At)) (RowT.T At)) := ⟨_, rfl⟩
  have hb0 : Below w.heap.size w W := by rw [hW]; go_grown
  have c1 := (cv_cells (heap_old_at (o := .cells (arr (RowT.z : At)) (RowT.T At)) (heap_alloc_new w (.cells (arr cv) 30)))).2.1
  have HZ : Hid (W.heap[w.heap.size + 1]? = some (.cells (arr (RowT.z : At)) (RowT.T At))) := Lib.hid (by rw [hW]; exact heap_new_at _ _ (alloc_size _ _))
  have HF := Lib.hid (fd_Fl ⟨u, At.zero⟩ hs (h.fs.below hb0))
  have HB := Lib.hid hb0
  have HW := Lib.hid hW
  clear h hs hb0
  change Hid (Calls _ _ _ _ fun r w' => r = .returned (.tuple #[.agg (arr ((find kF c.fs u).getD RowT.z)), .bool (find kF c.fs u).isSome]) ∧ _) at HF
  generalize (find kF c.fs u).isSome = b at HF ⊢
  generalize (find kF c.fs u).getD RowT.z = y at HF ⊢
  clear hW
  go_enter Tryz.func19, Tryz.ntmps19
  go_wp2_with (refine rw_alloc (α := At) rfl rfl ?_)
  rw [← HW.out]
  refine HF.out.mono ?_
  rintro r w1 ⟨rfl, hb1⟩
  have HB1 := Lib.hid (HB.out.trans (hb1.mono HB.out.size))
  have HZ1 := Lib.hid (heap_old_at (o := .cells (arr y) (RowT.T Fl)) ((hb1.block _ (heap_lt HZ.out)).trans HZ.out))
  have hr : (w1.alloc (.cells (arr y) (RowT.T Fl))).rangeAt w1.heap.size 1 (cells y.a) := fun j u hu => by
    rw [row_cell (heap_alloc_new w1 _)]
    have : (arr y)[1 + j]? = (cells y.a)[j]? := by simp [arr, cells, Nat.add_comm]
    rw [this]; exact hu
  have HR := Lib.hid hr
  clear hb1 c1 hr
  go_wp2_with (first
    | (refine rw_put (α := Fl) _ 6 (.tmp 14) rfl rfl rfl rfl rfl rfl y rfl rfl ?_)
    | (refine rw_load (α := At) rfl (.tmp 16) rfl w1.heap.size 1 rfl y.a HR.out ?_)
    | (refine rw_store (α := At) rfl (.tmp 4) (.tmp 17) rfl (w.heap.size + 1) y.a _ (arr_size _) rfl rfl HZ1.out ?_; intro w2 hb2 hg2 hs2; have hbl : Below w.heap.size w w2 := (HB1.out.trans (bel_box.mono HB1.out.size)).grown hg2 (HB1.out.trans (bel_box.mono HB1.out.size)).size (fun j hj => by cases hj; exact Nat.le_succ _)))
  (try simp only [Exit.inBlock, Exit.then])
  refine bodyPost_ret (res_row (α := At) Tryz.results19 _ _ (w.heap.size + 1) y.a (.bool b) rfl rfl hb2) rfl ?_
  exact ⟨rfl, hbl⟩
set_option maxHeartbeats 4000000 in
theorem name_any {c : Ca} {cv : Cv} {w : World} (h : CaAt w cv c) (hs : Srt kN lN c.ns) (d m : ByteArray) :
    Calls Tryz.prog 21 #[.agg (arr cv), .string d, .string m] w fun r w' => r = .returned (.tuple #[.string ((find kN c.ns (d, m)).getD RowT.z).up, .bool (find kN c.ns (d, m)).isSome]) ∧ Below w.heap.size w w' := by
  have c2 := (cv_cells (heap_alloc_new w (.cells (arr cv) 30))).2.2.1
  have HF := Lib.hid (fd_Nm ⟨d, m, ⟨#[]⟩⟩ hs (h.ns.below (bel_box (o := .cells (arr cv) 30))))
  clear h hs
  change Hid (Calls _ _ _ _ fun r w' => r = .returned (.tuple #[.agg (arr ((find kN c.ns (d, m)).getD RowT.z)), .bool (find kN c.ns (d, m)).isSome]) ∧ _) at HF
  generalize (find kN c.ns (d, m)).isSome = b at HF ⊢
  generalize (find kN c.ns (d, m)).getD RowT.z = y at HF ⊢
  go_enter Tryz.func21, Tryz.ntmps21
  go_wp2_with fail
  refine HF.out.mono ?_
  rintro r w1 ⟨rfl, hb1⟩
  have HB1 := Lib.hid ((bel_box (w := w)).trans (hb1.mono bel_box.size))
  have y2 : (w1.alloc (.cells (arr y) (RowT.T Nm))).cell? ⟨w1.heap.size, 2, none⟩ = some (.string y.up) := by rw [row_cell (heap_alloc_new w1 _)]; rfl
  clear hb1 c2
  go_wp2_with (refine rw_put (α := Nm) _ 8 (.tmp 17) rfl rfl rfl rfl rfl rfl y rfl rfl ?_)
  go_ret2
  exact ⟨rfl, HB1.out.trans (bel_box.mono HB1.out.size)⟩
set_option maxHeartbeats 4000000 in
theorem block_any {c : Ca} {cv : Cv} {w : World} (h : CaAt w cv c) (hs : Srt kB lB c.bs) (u : ByteArray) (m : Int) :
    Calls Tryz.prog 23 #[.agg (arr cv), .string u, .int .i64 m] w fun r w' => r = .returned (.tuple #[.int .i64 ((find kB c.bs (u, m)).getD RowT.z).sl, .bool (find kB c.bs (u, m)).isSome]) ∧ Below w.heap.size w w' := by
  have c3 := (cv_cells (heap_alloc_new w (.cells (arr cv) 30))).2.2.2
  have HF := Lib.hid (fd_Bl ⟨u, m, 0⟩ hs (h.bs.below (bel_box (o := .cells (arr cv) 30))))
  clear h hs
  change Hid (Calls _ _ _ _ fun r w' => r = .returned (.tuple #[.agg (arr ((find kB c.bs (u, m)).getD RowT.z)), .bool (find kB c.bs (u, m)).isSome]) ∧ _) at HF
  generalize (find kB c.bs (u, m)).isSome = b at HF ⊢
  generalize (find kB c.bs (u, m)).getD RowT.z = y at HF ⊢
  go_enter Tryz.func23, Tryz.ntmps23
  go_wp2_with fail
  refine HF.out.mono ?_
  rintro r w1 ⟨rfl, hb1⟩
  have HB1 := Lib.hid ((bel_box (w := w)).trans (hb1.mono bel_box.size))
  have y2 : (w1.alloc (.cells (arr y) (RowT.T Bl))).cell? ⟨w1.heap.size, 2, none⟩ = some (.int .i64 y.sl) := by rw [row_cell (heap_alloc_new w1 _)]; rfl
  clear hb1 c3
  go_wp2_with (refine rw_put (α := Bl) _ 8 (.tmp 17) rfl rfl rfl rfl rfl rfl y rfl rfl ?_)
  go_ret2
  exact ⟨rfl, HB1.out.trans (bel_box.mono HB1.out.size)⟩
end Go.Proofs.YtokhnbdhcehonaaGreat
