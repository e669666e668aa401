/- index: the document's Changes of a cache. -/
import Derived.Test.YtokhnbdhcehonaaGreatBase
import Derived.Test.YtokhnbdhcehonaaGreatFlowW
set_option linter.unusedSimpArgs false
set_option linter.unusedVariables false
namespace Go.Proofs.YtokhnbdhcehonaaGreat
open Go Go.RowKit Row
set_option maxRecDepth 100000
def hdC (x : Hd) : Ch := ⟨1, x.e, x.s, x.up, ⟨#[]⟩, ⟨#[]⟩, At.zero, 0, 0⟩
def flC (x : Fl) : Ch := ⟨3, 0, 0, x.up, ⟨#[]⟩, ⟨#[]⟩, x.a, 0, 0⟩
def nmC (x : Nm) : Ch := ⟨6, 0, 0, x.dir, x.name, x.up, At.zero, 0, 0⟩
def blC (x : Bl) : Ch := ⟨8, 0, 0, x.up, ⟨#[]⟩, ⟨#[]⟩, At.zero, x.no, x.sl⟩
def chgC (c : Ca) : List Ch := c.hs.map hdC ++ c.fs.map flC ++ c.ns.map nmC ++ c.bs.map blC
theorem map_next {α β : Type} (f : α → β) {l : List α} {k : Nat} (hk : k < l.length) : (l.take (k + 1)).map f = (l.take k).map f ++ [f l[k]] := by
  rw [List.take_succ_eq_append_getElem hk, List.map_append]; rfl
theorem turn_lit1 {α : Type} [Row α] [RowT α] [RowS α] {w : World} {o : Oper} {a : Act} {K : Value → World → Prop} (hn24 : n α ≤ 16777216) (x : Operand) (ho : o.op = .buildSlice (RowS.S α) 1 #[(0, x)]) (s : α) (hx : a.eval x = .agg (arr s))
    (hK : K (.slice (some ⟨w.heap.size, 0, none⟩) 1 1) (w.alloc (.cells (arr s) (RowT.T α)))) : effR Tryz.prog K ((execOp a.eval o).run Tryz.prog w) := by
  obtain ⟨i, hi, hz, hn, hb⟩ := RowT.info (α := α)
  have hr := run_buildSlice (P := Tryz.prog) w (RowS.S α) (RowT.T α) 1 (#[(0, x)].map fun (i, x) => (i, a.eval x)) (arr s) i (.agg (arr (RowT.z : α))) RowS.hS hi hz (by rw [hn]; omega) (by rw [hn]; have := Row.pos (α := α); omega) (by
    simp only [List.map_toArray, List.map_cons, List.map_nil, hx, hn]
    exact fill_one (by simp [size_zeroCells, len]) (arr_size s))
  unfold execOp
  simp only [ho, Sem.run_bind, hr, Result.andThen_ok]
  exact hK
theorem build_ch (u : ByteArray) (a : At) : List.foldl (fun (cs : Array Value) (x : Value × Nat) => cs.setIfInBounds (6 + x.2) x.1) (arr (⟨3, 0, 0, u, ⟨#[]⟩, ⟨#[]⟩, At.zero, 0, 0⟩ : Ch)) (cells a).zipIdx = arr (⟨3, 0, 0, u, ⟨#[]⟩, ⟨#[]⟩, a, 0, 0⟩ : Ch) := by
  have := foldl_from (cells a) 0 6 (arr (⟨3, 0, 0, u, ⟨#[]⟩, ⟨#[]⟩, At.zero, 0, 0⟩ : Ch))
  rw [Nat.add_zero] at this
  exact this.trans (set_at ⟨3, 0, 0, u, ⟨#[]⟩, ⟨#[]⟩, At.zero, 0, 0⟩ a)
theorem fl_range2 {w : World} {b o : Nat} {x : Fl} (h : w.rangeAt b o (cells x)) : w.rangeAt b (o + 1) (cells x.a) := fun j u hu => by
  have := h (j + 1) u (by simpa [cells] using hu)
  rwa [show o + (j + 1) = o + 1 + j by omega] at this
set_option maxHeartbeats 32000000 in
theorem changes_any {c : Ca} {cv : Cv} {w : World} (h : CaAt w cv c) (hf : Few c 100) :
    Calls Tryz.prog 38 #[.agg (arr cv)] w fun r w' => ∃ v', r = .returned v' ∧ Rs w' 0 v' (chgC c) ∧ Below w.heap.size w w' := by
  obtain ⟨Wb, hW⟩ : ∃ Wb, Wb = w.alloc (.cells (arr cv) 30) := ⟨_, rfl⟩
  have hb0 : Below w.heap.size w Wb := by rw [hW]; exact bel_box
  have HX : Hid (Wb.heap[w.heap.size]? = some (.cells (arr cv) 30)) := Lib.hid (by rw [hW]; exact heap_alloc_new _ _)
  have HCA := Lib.hid (h.below hb0)
  have HB := Lib.hid hb0
  have HW := Lib.hid hW
  have HFW := Lib.hid hf
  have HRH := HCA.out.hs
  have HRF := HCA.out.fs
  have HRN := HCA.out.ns
  have HRB := HCA.out.bs
  obtain ⟨A1, p1, hv1, q1, _⟩ := HRH.any
  obtain ⟨A2, p2, hv2, q2, _⟩ := HRF.any
  obtain ⟨A3, p3, hv3, q3, _⟩ := HRN.any
  obtain ⟨A4, p4, hv4, q4, _⟩ := HRB.any
  rw [hv1] at HRH
  rw [hv2] at HRF
  rw [hv3] at HRN
  rw [hv4] at HRB
  have HRH := Lib.hid HRH
  have HRF := Lib.hid HRF
  have HRN := Lib.hid HRN
  have HRB := Lib.hid HRB
  have HCC : Hid (∀ wS, Below Wb.heap.size Wb wS → wS.cell? ⟨w.heap.size, 0, none⟩ = some (.slice A1 c.hs.length p1) ∧ wS.cell? ⟨w.heap.size, 1, none⟩ = some (.slice A2 c.fs.length p2) ∧ wS.cell? ⟨w.heap.size, 2, none⟩ = some (.slice A3 c.ns.length p3) ∧ wS.cell? ⟨w.heap.size, 3, none⟩ = some (.slice A4 c.bs.length p4)) := Lib.hid (fun wS hS => by
    have := cv_cells ((hS.block _ (heap_lt HX.out)).trans HX.out)
    rwa [hv1, hv2, hv3, hv4] at this)
  have L1 := hf.hs
  have L2 := hf.fs
  have L3 := hf.ns
  have L4 := hf.bs
  clear h hb0 hW hf hv1 hv2 hv3 hv4
  have HCG : Hid (chgC c = c.hs.map hdC ++ c.fs.map flC ++ c.ns.map nmC ++ c.bs.map blC) := Lib.hid rfl
  generalize c.hs = lh at *
  generalize c.fs = lf at *
  generalize c.ns = ln at *
  generalize c.bs = lb at *
  have hm63 : maxLen = 9223372036854775807 := rfl
  go_enter Tryz.func38, Tryz.ntmps38
  go_wp2_with fail
  rw [← HW.out]
  go_loopw [3, 4] (fun vo i wq => ∃ k : Nat, k ≤ lh.length ∧ i = .int .i64 k ∧ Ou Wb wq vo ((lh.take k).map hdC)) (fun _ i _ => lh.length - (intOf i).toNat)
  case atStart => exact ⟨0, by omega, rfl, .start Wb⟩
  case round =>
    obtain ⟨k, hk, rfl, hou⟩ := hrel
    have HO := Lib.hid hou
    clear hou
    obtain ⟨c0, c1, c2, c3⟩ := HCC.out wr HO.out.bl
    by_cases hlt : k < lh.length
    · have hltI : (k : Int) < (lh.length : Int) := by omega
      obtain ⟨b, off, cap', he, _, _⟩ := HRH.out.shape (by omega)
      cases he
      have HE : Hid (∀ wS, Below Wb.heap.size Wb wS → wS.rangeAt b (off + k * 3) (cells lh[k])) := Lib.hid (fun wS hS => rangeAt_below (HRH.out.range hlt) (HRH.out.lt b rfl) hS)
      have HR : Hid (∀ wS, Below Wb.heap.size Wb wS → wS.cell? ⟨b, off + k * 3, none⟩ = some (.int .i64 lh[k].e) ∧ wS.cell? ⟨b, off + k * 3 + 1, none⟩ = some (.int .i64 lh[k].s) ∧ wS.cell? ⟨b, off + k * 3 + 2, none⟩ = some (.string lh[k].up)) := Lib.hid (fun wS hS => ⟨HE.out wS hS 0 _ rfl, HE.out wS hS 1 _ rfl, HE.out wS hS 2 _ rfl⟩)
      have HN := Lib.hid (map_next hdC hlt)
      go_wp2_with fail
      clear c0 c1 c2 c3
      refine W.wp_region_flow2_lit [(0, false), (1, false), (2, false), (3, false), (4, false), (5, false), (6, false), (7, false), (8, false), (9, false), (10, false), (11, false), (12, false), (13, false), (14, false), (15, false), (16, false), (17, false), (18, false), (19, false), (20, true), (21, true), (22, false)] (fun wS => Below Wb.heap.size Wb wS) (by kernel_rfl) (by kernel_rfl) (by kernel_rfl) HO.out.bl.drew ?_
      repeat (first | (refine' flow2_pass (o := _) rfl _ _; (focus rfl); simp only [Act.put, List.setIfInBounds_toArray, List.set_cons_zero, List.set_cons_succ]) | (refine' flow2_take (v := _) (o := _) rfl _ _ _; rotate_left; (focus rfl); (focus (intro wS hS; have hE := Ext.refl wS; (obtain ⟨c0, c1, c2, c3⟩ := HCC.out wS hS; obtain ⟨r0, r1, r2⟩ := HR.out wS hS); go_simp; try (with_reducible (first | exact ⟨rfl, hS, hE⟩ | rfl)); done)); simp only [Act.put, List.setIfInBounds_toArray, List.set_cons_zero, List.set_cons_succ]))
      refine flow2_turn (o := _) rfl rfl ?_
      intro wT hE hS K hK
      refine turn_lit1 (α := Ch) (by decide) (.tmp 34) rfl (hdC lh[k]) rfl ?_
      have HO2 := Lib.hid ((HO.out.below ((Below.refl wr.heap.size wr).drew.trans hE)).below (bel_box (o := .cells (arr (hdC lh[k])) (RowT.T Ch))))
      refine hK _ _ HO2.out.bl ?_
      have HS2 := Lib.hid (rs_one wT (hdC lh[k]))
      obtain ⟨w2, hw2⟩ : ∃ w2, w2 = wT.alloc (.cells (arr (hdC lh[k])) (RowT.T Ch)) := ⟨_, rfl⟩
      obtain ⟨gs, hgs⟩ : ∃ gs, gs = wT.heap.size := ⟨_, rfl⟩
      rw [← hw2] at HO2 HS2 ⊢
      rw [← hgs] at HS2 ⊢
      clear hE hS hK K hw2 hgs
      simp only [Act.put, List.setIfInBounds_toArray, List.set_cons_zero, List.set_cons_succ]
      refine flow2_turn (o := _) rfl rfl ?_
      intro wU hE hS K hK
      refine turn_append (α := Ch) (m := [hdC lh[k]]) (.tmp 15) (.tmp 35) rfl rfl (HO2.out.rs.below hE) (some ⟨gs, 0, none⟩) 1 rfl (fun h => by cases h) (Sl.news (HS2.out.below hE)).2 (by simp; omega) (HO2.out.below hE).bl.size ?_
      intro v3 w3 h3 hg3
      have hO3 : Ou Wb w3 v3 ((lh.take k).map hdC ++ [hdC lh[k]]) := ⟨h3, (HO2.out.below hE).bl.grown hg3 (HO2.out.below hE).bl.size (fun j hj => Sl.ge HO2.out.rs j hj)⟩
      refine hK _ _ hO3.bl ?_
      have HO3 := Lib.hid hO3
      clear hE hS hK K hO3 h3 hg3
      simp only [Act.put, List.setIfInBounds_toArray, List.set_cons_zero, List.set_cons_succ]
      repeat (first | (refine' flow2_pass (o := _) rfl _ _; (focus rfl); simp only [Act.put, List.setIfInBounds_toArray, List.set_cons_zero, List.set_cons_succ]) | (refine' flow2_take (v := _) (o := _) rfl _ _ _; rotate_left; (focus rfl); (focus (intro wS hS; have hE := Ext.refl wS; (skip); go_simp; try (with_reducible (first | exact ⟨rfl, hS, hE⟩ | rfl)); done)); simp only [Act.put, List.setIfInBounds_toArray, List.set_cons_zero, List.set_cons_succ]))
      refine flow2_nil ?_
      intro w4 hE hS
      have HO4 := Lib.hid (HO3.out.below hE)
      clear hE hS
      go_wp2_with fail
      go_roundw
      case rel => exact ⟨k + 1, by omega, by go_num, by rw [HN.out]; exact HO4.out⟩
      case measure => simp [intOf]; omega
    · have hltI : ¬ (k : Int) < (lh.length : Int) := by omega
      obtain rfl : k = lh.length := by omega
      have ho := HO.out
      rw [List.take_length] at ho
      have HO1 := Lib.hid ho
      clear ho HO
      go_wp2_with fail
      obtain ⟨w10, hw10⟩ : ∃ z, z = wr := ⟨_, rfl⟩
      subst hw10
      clear c0 c1 c2 c3
      go_loopw [3, 5] (fun vo i wq => ∃ k : Nat, k ≤ lf.length ∧ i = .int .i64 k ∧ Ou Wb wq vo ((lh.map hdC) ++ (lf.take k).map flC)) (fun _ i _ => lf.length - (intOf i).toNat)
      case atStart => exact ⟨0, by omega, rfl, (by simpa using HO1.out)⟩
      case round =>
        obtain ⟨k, hk, rfl, hou⟩ := hrel
        have HO := Lib.hid hou
        clear hou
        obtain ⟨c0, c1, c2, c3⟩ := HCC.out wr HO.out.bl
        by_cases hlt : k < lf.length
        · have hltI : (k : Int) < (lf.length : Int) := by omega
          obtain ⟨b, off, cap', he, _, _⟩ := HRF.out.shape (by omega)
          cases he
          have HE : Hid (∀ wS, Below Wb.heap.size Wb wS → wS.rangeAt b (off + k * 11) (cells lf[k])) := Lib.hid (fun wS hS => rangeAt_below (HRF.out.range hlt) (HRF.out.lt b rfl) hS)
          have HR : Hid (∀ wS, Below Wb.heap.size Wb wS → wS.cell? ⟨b, off + k * 11, none⟩ = some (.string lf[k].up)) := Lib.hid (fun wS hS => HE.out wS hS 0 _ rfl)
          have HN := Lib.hid (map_next flC hlt)
          go_wp2_with fail
          clear c0 c1 c2 c3
          refine W.wp_region_flow2_lit [(0, false), (1, false), (2, false), (3, false), (4, false), (5, false), (6, false), (7, false), (8, false), (9, false), (10, false), (11, false), (12, false), (13, false), (14, true), (15, true), (16, false)] (fun wS => Below Wb.heap.size Wb wS) (by kernel_rfl) (by kernel_rfl) (by kernel_rfl) HO.out.bl.drew ?_
          repeat (first | (refine' flow2_pass (o := _) rfl _ _; (focus rfl); simp only [Act.put, List.setIfInBounds_toArray, List.set_cons_zero, List.set_cons_succ]) | (refine' flow2_take (v := _) (o := _) rfl _ _ _; rotate_left; (focus rfl); (focus (intro wS hS; have hE := Ext.refl wS; (obtain ⟨c0, c1, c2, c3⟩ := HCC.out wS hS; have r0 := HR.out wS hS); go_simp; try (with_reducible (first | exact ⟨rfl, hS, hE⟩ | rfl)); done)); simp only [Act.put, List.setIfInBounds_toArray, List.set_cons_zero, List.set_cons_succ]))
          (refine flow2_take (v := .agg (arr lf[k].a)) (o := _) rfl rfl (fun wS hS => gives_row rfl rfl (fl_range2 (HE.out wS hS)) ⟨hS, Ext.refl wS⟩) ?_; simp only [Act.put, List.setIfInBounds_toArray, List.set_cons_zero, List.set_cons_succ])
          have hca : (cells lf[k].a).length = 10 := Row.len lf[k].a
          (refine flow2_take (v := .agg (arr (flC lf[k]))) (o := _) rfl rfl (fun wS hS => by go_simp; exact ⟨build_ch _ _, Ext.refl wS⟩) ?_; simp only [Act.put, List.setIfInBounds_toArray, List.set_cons_zero, List.set_cons_succ])
          clear hca
          refine flow2_turn (o := _) rfl rfl ?_
          intro wT hE hS K hK
          refine turn_lit1 (α := Ch) (by decide) (.tmp 57) rfl (flC lf[k]) rfl ?_
          have HO2 := Lib.hid ((HO.out.below ((Below.refl wr.heap.size wr).drew.trans hE)).below (bel_box (o := .cells (arr (flC lf[k])) (RowT.T Ch))))
          refine hK _ _ HO2.out.bl ?_
          have HS2 := Lib.hid (rs_one wT (flC lf[k]))
          obtain ⟨w2, hw2⟩ : ∃ w2, w2 = wT.alloc (.cells (arr (flC lf[k])) (RowT.T Ch)) := ⟨_, rfl⟩
          obtain ⟨gs, hgs⟩ : ∃ gs, gs = wT.heap.size := ⟨_, rfl⟩
          rw [← hw2] at HO2 HS2 ⊢
          rw [← hgs] at HS2 ⊢
          clear hE hS hK K hw2 hgs
          simp only [Act.put, List.setIfInBounds_toArray, List.set_cons_zero, List.set_cons_succ]
          refine flow2_turn (o := _) rfl rfl ?_
          intro wU hE hS K hK
          refine turn_append (α := Ch) (m := [flC lf[k]]) (.tmp 44) (.tmp 58) rfl rfl (HO2.out.rs.below hE) (some ⟨gs, 0, none⟩) 1 rfl (fun h => by cases h) (Sl.news (HS2.out.below hE)).2 (by simp; omega) (HO2.out.below hE).bl.size ?_
          intro v3 w3 h3 hg3
          have hO3 : Ou Wb w3 v3 ((lh.map hdC) ++ (lf.take k).map flC ++ [flC lf[k]]) := ⟨h3, (HO2.out.below hE).bl.grown hg3 (HO2.out.below hE).bl.size (fun j hj => Sl.ge HO2.out.rs j hj)⟩
          refine hK _ _ hO3.bl ?_
          have HO3 := Lib.hid hO3
          clear hE hS hK K hO3 h3 hg3
          simp only [Act.put, List.setIfInBounds_toArray, List.set_cons_zero, List.set_cons_succ]
          repeat (first | (refine' flow2_pass (o := _) rfl _ _; (focus rfl); simp only [Act.put, List.setIfInBounds_toArray, List.set_cons_zero, List.set_cons_succ]) | (refine' flow2_take (v := _) (o := _) rfl _ _ _; rotate_left; (focus rfl); (focus (intro wS hS; have hE := Ext.refl wS; (skip); go_simp; try (with_reducible (first | exact ⟨rfl, hS, hE⟩ | rfl)); done)); simp only [Act.put, List.setIfInBounds_toArray, List.set_cons_zero, List.set_cons_succ]))
          refine flow2_nil ?_
          intro w4 hE hS
          have HO4 := Lib.hid (HO3.out.below hE)
          clear hE hS
          go_wp2_with fail
          go_roundw
          case rel => exact ⟨k + 1, by omega, by go_num, by rw [HN.out, ← List.append_assoc]; exact HO4.out⟩
          case measure => simp [intOf]; omega
        · have hltI : ¬ (k : Int) < (lf.length : Int) := by omega
          obtain rfl : k = lf.length := by omega
          have ho := HO.out
          rw [List.take_length] at ho
          have HO2 := Lib.hid ho
          clear ho HO
          go_wp2_with fail
          obtain ⟨w20, hw20⟩ : ∃ z, z = wr := ⟨_, rfl⟩
          subst hw20
          clear c0 c1 c2 c3
          go_loopw [3, 6] (fun vo i wq => ∃ k : Nat, k ≤ ln.length ∧ i = .int .i64 k ∧ Ou Wb wq vo ((lh.map hdC ++ lf.map flC) ++ (ln.take k).map nmC)) (fun _ i _ => ln.length - (intOf i).toNat)
          case atStart => exact ⟨0, by omega, rfl, (by simpa using HO2.out)⟩
          case round =>
            obtain ⟨k, hk, rfl, hou⟩ := hrel
            have HO := Lib.hid hou
            clear hou
            obtain ⟨c0, c1, c2, c3⟩ := HCC.out wr HO.out.bl
            by_cases hlt : k < ln.length
            · have hltI : (k : Int) < (ln.length : Int) := by omega
              obtain ⟨b, off, cap', he, _, _⟩ := HRN.out.shape (by omega)
              cases he
              have HE : Hid (∀ wS, Below Wb.heap.size Wb wS → wS.rangeAt b (off + k * 3) (cells ln[k])) := Lib.hid (fun wS hS => rangeAt_below (HRN.out.range hlt) (HRN.out.lt b rfl) hS)
              have HR : Hid (∀ wS, Below Wb.heap.size Wb wS → wS.cell? ⟨b, off + k * 3, none⟩ = some (.string ln[k].dir) ∧ wS.cell? ⟨b, off + k * 3 + 1, none⟩ = some (.string ln[k].name) ∧ wS.cell? ⟨b, off + k * 3 + 2, none⟩ = some (.string ln[k].up)) := Lib.hid (fun wS hS => ⟨HE.out wS hS 0 _ rfl, HE.out wS hS 1 _ rfl, HE.out wS hS 2 _ rfl⟩)
              have HN := Lib.hid (map_next nmC hlt)
              go_wp2_with fail
              clear c0 c1 c2 c3
              refine W.wp_region_flow2_lit [(0, false), (1, false), (2, false), (3, false), (4, false), (5, false), (6, false), (7, false), (8, false), (9, false), (10, false), (11, false), (12, false), (13, false), (14, false), (15, false), (16, false), (17, false), (18, false), (19, false), (20, true), (21, true), (22, false)] (fun wS => Below Wb.heap.size Wb wS) (by kernel_rfl) (by kernel_rfl) (by kernel_rfl) HO.out.bl.drew ?_
              repeat (first | (refine' flow2_pass (o := _) rfl _ _; (focus rfl); simp only [Act.put, List.setIfInBounds_toArray, List.set_cons_zero, List.set_cons_succ]) | (refine' flow2_take (v := _) (o := _) rfl _ _ _; rotate_left; (focus rfl); (focus (intro wS hS; have hE := Ext.refl wS; (obtain ⟨c0, c1, c2, c3⟩ := HCC.out wS hS; obtain ⟨r0, r1, r2⟩ := HR.out wS hS); go_simp; try (with_reducible (first | exact ⟨rfl, hS, hE⟩ | rfl)); done)); simp only [Act.put, List.setIfInBounds_toArray, List.set_cons_zero, List.set_cons_succ]))
              refine flow2_turn (o := _) rfl rfl ?_
              intro wT hE hS K hK
              refine turn_lit1 (α := Ch) (by decide) (.tmp 86) rfl (nmC ln[k]) rfl ?_
              have HO2 := Lib.hid ((HO.out.below ((Below.refl wr.heap.size wr).drew.trans hE)).below (bel_box (o := .cells (arr (nmC ln[k])) (RowT.T Ch))))
              refine hK _ _ HO2.out.bl ?_
              have HS2 := Lib.hid (rs_one wT (nmC ln[k]))
              obtain ⟨w2, hw2⟩ : ∃ w2, w2 = wT.alloc (.cells (arr (nmC ln[k])) (RowT.T Ch)) := ⟨_, rfl⟩
              obtain ⟨gs, hgs⟩ : ∃ gs, gs = wT.heap.size := ⟨_, rfl⟩
              rw [← hw2] at HO2 HS2 ⊢
              rw [← hgs] at HS2 ⊢
              clear hE hS hK K hw2 hgs
              simp only [Act.put, List.setIfInBounds_toArray, List.set_cons_zero, List.set_cons_succ]
              refine flow2_turn (o := _) rfl rfl ?_
              intro wU hE hS K hK
              refine turn_append (α := Ch) (m := [nmC ln[k]]) (.tmp 67) (.tmp 87) rfl rfl (HO2.out.rs.below hE) (some ⟨gs, 0, none⟩) 1 rfl (fun h => by cases h) (Sl.news (HS2.out.below hE)).2 (by simp; omega) (HO2.out.below hE).bl.size ?_
              intro v3 w3 h3 hg3
              have hO3 : Ou Wb w3 v3 ((lh.map hdC ++ lf.map flC) ++ (ln.take k).map nmC ++ [nmC ln[k]]) := ⟨h3, (HO2.out.below hE).bl.grown hg3 (HO2.out.below hE).bl.size (fun j hj => Sl.ge HO2.out.rs j hj)⟩
              refine hK _ _ hO3.bl ?_
              have HO3 := Lib.hid hO3
              clear hE hS hK K hO3 h3 hg3
              simp only [Act.put, List.setIfInBounds_toArray, List.set_cons_zero, List.set_cons_succ]
              repeat (first | (refine' flow2_pass (o := _) rfl _ _; (focus rfl); simp only [Act.put, List.setIfInBounds_toArray, List.set_cons_zero, List.set_cons_succ]) | (refine' flow2_take (v := _) (o := _) rfl _ _ _; rotate_left; (focus rfl); (focus (intro wS hS; have hE := Ext.refl wS; (skip); go_simp; try (with_reducible (first | exact ⟨rfl, hS, hE⟩ | rfl)); done)); simp only [Act.put, List.setIfInBounds_toArray, List.set_cons_zero, List.set_cons_succ]))
              refine flow2_nil ?_
              intro w4 hE hS
              have HO4 := Lib.hid (HO3.out.below hE)
              clear hE hS
              go_wp2_with fail
              go_roundw
              case rel => exact ⟨k + 1, by omega, by go_num, by rw [HN.out, ← List.append_assoc]; exact HO4.out⟩
              case measure => simp [intOf]; omega
            · have hltI : ¬ (k : Int) < (ln.length : Int) := by omega
              obtain rfl : k = ln.length := by omega
              have ho := HO.out
              rw [List.take_length] at ho
              have HO3 := Lib.hid ho
              clear ho HO
              go_wp2_with fail
              obtain ⟨w30, hw30⟩ : ∃ z, z = wr := ⟨_, rfl⟩
              subst hw30
              clear c0 c1 c2 c3
              go_loopw [3, 7] (fun vo i wq => ∃ k : Nat, k ≤ lb.length ∧ i = .int .i64 k ∧ Ou Wb wq vo ((lh.map hdC ++ lf.map flC ++ ln.map nmC) ++ (lb.take k).map blC)) (fun _ i _ => lb.length - (intOf i).toNat)
              case atStart => exact ⟨0, by omega, rfl, (by simpa using HO3.out)⟩
              case round =>
                obtain ⟨k, hk, rfl, hou⟩ := hrel
                have HO := Lib.hid hou
                clear hou
                obtain ⟨c0, c1, c2, c3⟩ := HCC.out wr HO.out.bl
                by_cases hlt : k < lb.length
                · have hltI : (k : Int) < (lb.length : Int) := by omega
                  obtain ⟨b, off, cap', he, _, _⟩ := HRB.out.shape (by omega)
                  cases he
                  have HE : Hid (∀ wS, Below Wb.heap.size Wb wS → wS.rangeAt b (off + k * 3) (cells lb[k])) := Lib.hid (fun wS hS => rangeAt_below (HRB.out.range hlt) (HRB.out.lt b rfl) hS)
                  have HR : Hid (∀ wS, Below Wb.heap.size Wb wS → wS.cell? ⟨b, off + k * 3, none⟩ = some (.string lb[k].up) ∧ wS.cell? ⟨b, off + k * 3 + 1, none⟩ = some (.int .i64 lb[k].no) ∧ wS.cell? ⟨b, off + k * 3 + 2, none⟩ = some (.int .i64 lb[k].sl)) := Lib.hid (fun wS hS => ⟨HE.out wS hS 0 _ rfl, HE.out wS hS 1 _ rfl, HE.out wS hS 2 _ rfl⟩)
                  have HN := Lib.hid (map_next blC hlt)
                  go_wp2_with fail
                  clear c0 c1 c2 c3
                  refine W.wp_region_flow2_lit [(0, false), (1, false), (2, false), (3, false), (4, false), (5, false), (6, false), (7, false), (8, false), (9, false), (10, false), (11, false), (12, false), (13, false), (14, false), (15, false), (16, false), (17, false), (18, false), (19, false), (20, true), (21, true), (22, false)] (fun wS => Below Wb.heap.size Wb wS) (by kernel_rfl) (by kernel_rfl) (by kernel_rfl) HO.out.bl.drew ?_
                  repeat (first | (refine' flow2_pass (o := _) rfl _ _; (focus rfl); simp only [Act.put, List.setIfInBounds_toArray, List.set_cons_zero, List.set_cons_succ]) | (refine' flow2_take (v := _) (o := _) rfl _ _ _; rotate_left; (focus rfl); (focus (intro wS hS; have hE := Ext.refl wS; (obtain ⟨c0, c1, c2, c3⟩ := HCC.out wS hS; obtain ⟨r0, r1, r2⟩ := HR.out wS hS); go_simp; try (with_reducible (first | exact ⟨rfl, hS, hE⟩ | rfl)); done)); simp only [Act.put, List.setIfInBounds_toArray, List.set_cons_zero, List.set_cons_succ]))
                  refine flow2_turn (o := _) rfl rfl ?_
                  intro wT hE hS K hK
                  refine turn_lit1 (α := Ch) (by decide) (.tmp 115) rfl (blC lb[k]) rfl ?_
                  have HO2 := Lib.hid ((HO.out.below ((Below.refl wr.heap.size wr).drew.trans hE)).below (bel_box (o := .cells (arr (blC lb[k])) (RowT.T Ch))))
                  refine hK _ _ HO2.out.bl ?_
                  have HS2 := Lib.hid (rs_one wT (blC lb[k]))
                  obtain ⟨w2, hw2⟩ : ∃ w2, w2 = wT.alloc (.cells (arr (blC lb[k])) (RowT.T Ch)) := ⟨_, rfl⟩
                  obtain ⟨gs, hgs⟩ : ∃ gs, gs = wT.heap.size := ⟨_, rfl⟩
                  rw [← hw2] at HO2 HS2 ⊢
                  rw [← hgs] at HS2 ⊢
                  clear hE hS hK K hw2 hgs
                  simp only [Act.put, List.setIfInBounds_toArray, List.set_cons_zero, List.set_cons_succ]
                  refine flow2_turn (o := _) rfl rfl ?_
                  intro wU hE hS K hK
                  refine turn_append (α := Ch) (m := [blC lb[k]]) (.tmp 96) (.tmp 116) rfl rfl (HO2.out.rs.below hE) (some ⟨gs, 0, none⟩) 1 rfl (fun h => by cases h) (Sl.news (HS2.out.below hE)).2 (by simp; omega) (HO2.out.below hE).bl.size ?_
                  intro v3 w3 h3 hg3
                  have hO3 : Ou Wb w3 v3 ((lh.map hdC ++ lf.map flC ++ ln.map nmC) ++ (lb.take k).map blC ++ [blC lb[k]]) := ⟨h3, (HO2.out.below hE).bl.grown hg3 (HO2.out.below hE).bl.size (fun j hj => Sl.ge HO2.out.rs j hj)⟩
                  refine hK _ _ hO3.bl ?_
                  have HO3 := Lib.hid hO3
                  clear hE hS hK K hO3 h3 hg3
                  simp only [Act.put, List.setIfInBounds_toArray, List.set_cons_zero, List.set_cons_succ]
                  repeat (first | (refine' flow2_pass (o := _) rfl _ _; (focus rfl); simp only [Act.put, List.setIfInBounds_toArray, List.set_cons_zero, List.set_cons_succ]) | (refine' flow2_take (v := _) (o := _) rfl _ _ _; rotate_left; (focus rfl); (focus (intro wS hS; have hE := Ext.refl wS; (skip); go_simp; try (with_reducible (first | exact ⟨rfl, hS, hE⟩ | rfl)); done)); simp only [Act.put, List.setIfInBounds_toArray, List.set_cons_zero, List.set_cons_succ]))
                  refine flow2_nil ?_
                  intro w4 hE hS
                  have HO4 := Lib.hid (HO3.out.below hE)
                  clear hE hS
                  go_wp2_with fail
                  go_roundw
                  case rel => exact ⟨k + 1, by omega, by go_num, by rw [HN.out, ← List.append_assoc]; exact HO4.out⟩
                  case measure => simp [intOf]; omega
                · have hltI : ¬ (k : Int) < (lb.length : Int) := by omega
                  obtain rfl : k = lb.length := by omega
                  have ho := HO.out
                  rw [List.take_length] at ho
                  have HO4 := Lib.hid ho
                  clear ho HO
                  go_wp2_with fail
                  go_ret
                  refine ⟨_, rfl, ?_, HB.out.trans (HO4.out.bl.mono HB.out.size)⟩
                  rw [HCG.out]
                  exact HO4.out.rs.mono (Nat.zero_le _)
end Go.Proofs.YtokhnbdhcehonaaGreat
