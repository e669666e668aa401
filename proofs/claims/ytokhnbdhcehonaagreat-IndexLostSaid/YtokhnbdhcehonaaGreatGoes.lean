/- index: the document's goes: a handle. -/
import Derived.Test.YtokhnbdhcehonaaGreatBase
import Derived.Test.YtokhnbdhcehonaaGreatApp
set_option linter.unusedSimpArgs false
set_option linter.unusedVariables false
namespace Go.Proofs.YtokhnbdhcehonaaGreat
open Go Go.RowKit Row
set_option maxRecDepth 100000
def GoV (d : Ca) (b : Bool) (w : World) (r : Ending) (w' : World) : Prop := ∃ cv', r = .returned (.tuple #[.agg (arr cv'), .bool b]) ∧ CaAt w' cv' d ∧ Below w.heap.size w w'
set_option maxHeartbeats 16000000 in
theorem goes_hd {c : Ca} {cv : Cv} {w : World} (h : CaAt w cv c) (hf : Few c 990) (hs : Srt kH lH c.hs) (x : Ch) (hk : x.k = 2) :
    Calls Tryz.prog 85 #[.agg (arr cv), .agg (arr x)] w (GoV (if (find kH c.hs (x.e, x.s)).isSome = true then { c with hs := del kH c.hs (x.e, x.s) } else c) (find kH c.hs (x.e, x.s)).isSome w) := by
  have hF0 := Fr.start w cv x
  obtain ⟨⟨x0, x1, x2, x3⟩, -⟩ := ch_cells hF0.xb
  have c0 := (cv_cells hF0.cb).1
  have HP := Lib.hid (pheld_any (h.hs.below hF0.bl) x.e x.s)
  have HR := Lib.hid (h.hs.below hF0.bl)
  have HL := Lib.hid hf.hs
  have hk2 : (x.k == 2) = true := by simp [hk]
  have HCA := Lib.hid h
  have HF0 := Lib.hid hF0
  clear h hf hF0 hk
  have hm63 : maxLen = 9223372036854775807 := rfl
  obtain ⟨A, cap, hv, hlc, hcap⟩ := HR.out.any
  rw [hv] at HR HP c0
  have HVA := Lib.hid hv
  clear hv
  obtain ⟨P, hP⟩ : ∃ P, P = plc (fun y => decide (kH y = (x.e, x.s))) c.hs := ⟨_, rfl⟩
  rw [← hP] at HP
  rcases plc_cases (fun y => decide (kH y = (x.e, x.s))) c.hs with ⟨i, hi, hpi, he, -⟩ | ⟨hpi, hno⟩
  · have hki : kH (c.hs[i]) = (x.e, x.s) := by simpa using he
    have hfs : (find kH c.hs (x.e, x.s)).isSome = true := by
      cases hh : find kH c.hs (x.e, x.s) with
      | none => exact absurd hki (find_none.1 hh _ (List.getElem_mem hi))
      | some y => rfl
    rw [hfs, if_pos rfl, ← hki, del_at lH_lin hs hi]
    obtain rfl : P = (i : Int) := hP.trans hpi
    obtain ⟨b, off, cap', he, _, _⟩ := HR.out.shape (by omega)
    cases he
    clear hki he hs hP hpi hfs
    generalize c.hs = l at *
    have hi0 : decide ((i : Int) < 0) = false := decide_eq_false (by omega)
    go_enter Tryz.func85, Tryz.ntmps85
    go_wp2_with (refine rw_alloc (α := Cv) rfl rfl ?_)
    refine HP.out.mono ?_
    rintro r w1 ⟨rfl, hb1⟩
    have HF1 := Lib.hid (HF0.out.below hb1)
    have HR1 := Lib.hid (HR.out.below hb1)
    clear hb1 HP c0 x0 x1 x2 x3
    go_wp2_with fail
    have HC : Hid (∀ wS, Below w1.heap.size w1 wS → wS.cell? ⟨w.heap.size, 0, none⟩ = some (.slice (some ⟨b, off, none⟩) l.length cap)) := Lib.hid (fun wS hS => (cv_cells (HF1.out.below hS).cb).1 |>.trans (by rw [HVA.out]))
    refine E.wp_region_flow2_lit [(1, false), (2, false), (3, false), (4, false), (6, false), (7, false), (8, false), (9, false), (10, false), (0, true), (5, true), (11, true), (12, false), (13, true)] (fun wS => Below w1.heap.size w1 wS) (by kernel_rfl) (by kernel_rfl) (by kernel_rfl) (Below.refl _ _).drew ?_
    have HW1 : Hid (IntKind.i64.wrap ((i : Int) + 1) = (i : Int) + 1) := Lib.hid (by rw [IntKind.wrap_i64]; omega)
    repeat (first | (refine' E.flow2_pass (o := _) rfl _ _; (focus rfl); simp only [Act.put, List.setIfInBounds_toArray, List.set_cons_zero, List.set_cons_succ]) | (refine' E.flow2_take (v := _) (o := _) rfl _ _ _; rotate_left; (focus rfl); (focus (intro wS hS; have hE := Ext.refl wS; (have c0 := HC.out wS hS; have hw1 := HW1.out; have htn : ((i : Int) + 1).toNat = i + 1 := (by omega); have hb1 : (0 : Int) ≤ (i : Int) + 1 := (by omega); have hb2 : (i : Int) + 1 ≤ (l.length : Int) := (by omega); have hb3 : i ≤ l.length := (by omega); have hb4 : i ≤ cap := (by omega); have hb5 : (i : Int) ≤ (cap : Int) := (by omega)); go_simp; try (with_reducible (first | exact ⟨rfl, hS, hE⟩ | rfl)); done)); simp only [Act.put, List.setIfInBounds_toArray, List.set_cons_zero, List.set_cons_succ]))
    refine E.flow2_turn (o := _) rfl rfl ?_
    intro wT hE hS K hK
    go_simp
    have hO0 : Ou w1 (wT.alloc (.cells #[] 40)) (.slice (some ⟨wT.heap.size, 0, none⟩) 0 0) ([] : List Hd) := ⟨Rs.empty wT hS.size, hS.trans (bel_box.mono hS.size)⟩
    refine hK _ _ hO0.bl ?_
    have HO0 := Lib.hid hO0
    clear hE hS hK K hO0
    simp only [Act.put, List.setIfInBounds_toArray, List.set_cons_zero, List.set_cons_succ]
    refine E.flow2_turn (o := _) rfl rfl ?_
    intro wU hE hS K hK
    refine turn_append (α := Hd) (m := l.take i) (.tmp 46) (.tmp 50) rfl rfl (HO0.out.rs.below hE) (some ⟨b, off, none⟩) cap (by rw [List.length_take, Nat.min_eq_left (by omega)]; rfl) (fun h => by cases h) (news_take (HR1.out.below hS)) (by rw [List.length_take]; simp; have := HL.out; omega) hS.size ?_
    intro v2 w2 h2 hg2
    have hO2 : Ou w1 w2 v2 ([] ++ l.take i) := ⟨h2, hS.grown hg2 hS.size (fun j hj => Sl.ge HO0.out.rs j hj)⟩
    refine hK _ _ hO2.bl ?_
    have HO2 := Lib.hid hO2
    clear hE hS hK K hO2 h2 hg2 HO0
    simp only [Act.put, List.setIfInBounds_toArray, List.set_cons_zero, List.set_cons_succ]
    refine E.flow2_turn (o := _) rfl rfl ?_
    intro wV hE hS K hK
    refine turn_append (α := Hd) (m := l.drop (i + 1)) (.tmp 51) (.tmp 56) rfl rfl (HO2.out.rs.below hE) (if cap = i + 1 then some ⟨b, off, none⟩ else some ⟨b, off + (i + 1) * 3, none⟩) (cap - (i + 1)) (by rw [List.length_drop]; rfl) (fun h => if_some h) (news_drop2 (HR1.out.below hS) hlc) (by rw [List.length_append, List.length_take, List.length_drop]; simp; have := HL.out; omega) hS.size ?_
    intro v3 w3 h3 hg3
    have hO3 : Ou w1 w3 v3 ([] ++ l.take i ++ l.drop (i + 1)) := ⟨h3, hS.grown hg3 hS.size (fun j hj => Sl.ge HO2.out.rs j hj)⟩
    obtain ⟨A3, k3, hv3, _, _⟩ := h3.any
    subst hv3
    refine hK _ _ hO3.bl ?_
    have HO3 := Lib.hid hO3
    clear hE hS hK K hO3 h3 hg3 HO2
    simp only [Act.put, List.setIfInBounds_toArray, List.set_cons_zero, List.set_cons_succ]
    repeat (first | (refine' E.flow2_pass (o := _) rfl _ _; (focus rfl); simp only [Act.put, List.setIfInBounds_toArray, List.set_cons_zero, List.set_cons_succ]) | (refine' E.flow2_take (v := _) (o := _) rfl _ _ _; rotate_left; (focus rfl); (focus (intro wS hS; have hE := Ext.refl wS; (skip); go_simp; try (with_reducible (first | exact ⟨rfl, hS, hE⟩ | rfl)); done)); simp only [Act.put, List.setIfInBounds_toArray, List.set_cons_zero, List.set_cons_succ]))
    refine E.flow2_last (o := _) rfl rfl ?_
    intro wX hE hS K hK
    refine turn_cell (β := Cv) 25 (.tmp 58) (.tmp 57) rfl w.heap.size 0 cv { cv with a := ⟨A3, _, k3⟩ } rfl rfl (HF1.out.below hS).cb (by decide) rfl rfl size25 ?_
    intro w5 hb5 hg5 hs5
    refine hK _ _ ?_
    have HF5 := Lib.hid ((HF1.out.below hS).cell (cv' := { cv with a := ⟨A3, _, k3⟩ }) hb5 hg5)
    have HR5 := Lib.hid ((HO3.out.rs.below hE).grown hg5 (HF1.out.below hS).cb (by decide))
    clear hE hS hK K hb5 hg5 hs5
    simp only [Act.put, List.setIfInBounds_toArray, List.set_cons_zero, List.set_cons_succ]
    go_wp2_with (first
      | (refine rw_load (α := Cv) rfl (.tmp 2) rfl w.heap.size 0 rfl { cv with a := ⟨A3, _, k3⟩ } (range_row HF5.out.cb) ?_)
      | (refine rw_store (α := Cv) rfl (.tmp 4) (.tmp 121) rfl (w.heap.size + 2) { cv with a := ⟨A3, _, k3⟩ } _ (arr_size _) rfl rfl HF5.out.zb ?_; intro w6 hb6 hg6 hs6; have HC6 := Lib.hid hb6; have HB6 := Lib.hid (HF5.out.ret hg6); have HR6 := Lib.hid (HR5.out.grown hg6 HF5.out.zb (by decide)); clear hb6 hg6 hs6))
    all_goals
      (try simp only [Exit.inBlock, Exit.then])
      refine bodyPost_ret (res_row (α := Cv) Tryz.results85 _ _ (w.heap.size + 2) { cv with a := ⟨A3, _, k3⟩ } (.bool true) rfl rfl HC6.out) rfl ?_
      exact ⟨_, rfl, ⟨HR6.out.mono (Nat.zero_le _), HCA.out.fs.below HB6.out, HCA.out.ns.below HB6.out, HCA.out.bs.below HB6.out⟩, HB6.out⟩
  · have hfs : (find kH c.hs (x.e, x.s)) = none := find_none.2 (fun y hy => by simpa using hno y hy)
    rw [hfs, if_neg (by simp)]
    obtain rfl : P = -1 := hP.trans hpi
    clear hs hP hpi hfs hno
    go_enter Tryz.func85, Tryz.ntmps85
    go_wp2_with (refine rw_alloc (α := Cv) rfl rfl ?_)
    refine HP.out.mono ?_
    rintro r w1 ⟨rfl, hb1⟩
    have HF1 := Lib.hid (HF0.out.below hb1)
    clear hb1 HP c0 x0 x1 x2 x3
    go_wp2_with (first
      | (refine rw_load (α := Cv) rfl (.tmp 2) rfl w.heap.size 0 rfl cv (range_row HF1.out.cb) ?_)
      | (refine rw_store (α := Cv) rfl (.tmp 4) (.tmp 45) rfl (w.heap.size + 2) cv _ (arr_size _) rfl rfl HF1.out.zb ?_; intro w6 hb6 hg6 hs6; have HC6 := Lib.hid hb6; have HB6 := Lib.hid (HF1.out.ret hg6); clear hb6 hg6 hs6))
    (try simp only [Exit.inBlock, Exit.then])
    refine bodyPost_ret (res_row (α := Cv) Tryz.results85 _ _ (w.heap.size + 2) cv (.bool false) rfl rfl HC6.out) rfl ?_
    exact ⟨_, rfl, HCA.out.below HB6.out, HB6.out⟩
end Go.Proofs.YtokhnbdhcehonaaGreat
/- index: the document's goes: names. -/
namespace Go.Proofs.YtokhnbdhcehonaaGreat
open Go Go.RowKit Row
set_option maxRecDepth 100000
set_option maxHeartbeats 16000000 in
theorem goes_nm {c : Ca} {cv : Cv} {w : World} (h : CaAt w cv c) (hf : Few c 990) (hs : Srt kN lN c.ns) (x : Ch) (hk : x.k = 7) :
    Calls Tryz.prog 85 #[.agg (arr cv), .agg (arr x)] w (GoV (if (find kN c.ns (x.up, x.name)).isSome = true then { c with ns := del kN c.ns (x.up, x.name) } else c) (find kN c.ns (x.up, x.name)).isSome w) := by
  have hF0 := Fr.start w cv x
  obtain ⟨⟨x0, x1, x2, x3⟩, x4, -, x7, -⟩ := ch_cells hF0.xb
  have c0 := (cv_cells hF0.cb).2.2.1
  have HP := Lib.hid (pname_any (h.ns.below hF0.bl) x.up x.name)
  have HR := Lib.hid (h.ns.below hF0.bl)
  have HL := Lib.hid hf.ns
  have hk2 : (x.k == 2) = false := by simp [hk]
  have hk4 : (x.k == 4) = false := by simp [hk]
  have hk5 : (x.k == 5) = false := by simp [hk]
  have hk7 : (x.k == 7) = true := by simp [hk]
  have HCA := Lib.hid h
  have HF0 := Lib.hid hF0
  clear h hf hF0 hk
  have hm63 : maxLen = 9223372036854775807 := rfl
  obtain ⟨A, cap, hv, hlc, hcap⟩ := HR.out.any
  rw [hv] at HR c0
  have HVA := Lib.hid hv
  clear hv
  obtain ⟨P, hP⟩ : ∃ P, P = plc (fun y => decide (kN y = (x.up, x.name))) c.ns := ⟨_, rfl⟩
  rw [← hP] at HP
  rcases plc_cases (fun y => decide (kN y = (x.up, x.name))) c.ns with ⟨i, hi, hpi, he, -⟩ | ⟨hpi, hno⟩
  · have hki : kN (c.ns[i]) = (x.up, x.name) := by simpa using he
    have hfs : (find kN c.ns (x.up, x.name)).isSome = true := by
      cases hh : find kN c.ns (x.up, x.name) with
      | none => exact absurd hki (find_none.1 hh _ (List.getElem_mem hi))
      | some y => rfl
    rw [hfs, if_pos rfl, ← hki, del_at lN_lin hs hi]
    obtain rfl : P = (i : Int) := hP.trans hpi
    obtain ⟨b, off, cap', he, _, _⟩ := HR.out.shape (by omega)
    cases he
    clear hki he hs hP hpi hfs
    generalize c.ns = l at *
    have hi0 : decide ((i : Int) < 0) = false := decide_eq_false (by omega)
    go_enter Tryz.func85, Tryz.ntmps85
    go_wp2_with (first
      | (refine rw_alloc (α := Cv) rfl rfl ?_)
      | (refine rw_load (α := Cv) rfl (.tmp 2) rfl w.heap.size 0 rfl cv (range_row HF0.out.cb) ?_))
    refine HP.out.mono ?_
    rintro r w1 ⟨rfl, hb1⟩
    have HF1 := Lib.hid (HF0.out.below hb1)
    have HR1 := Lib.hid (HR.out.below hb1)
    clear hb1 HP c0 x0 x1 x2 x3 x4 x7
    go_wp2_with fail
    have HC : Hid (∀ wS, Below w1.heap.size w1 wS → wS.cell? ⟨w.heap.size, 2, none⟩ = some (.slice (some ⟨b, off, none⟩) l.length cap)) := Lib.hid (fun wS hS => (cv_cells (HF1.out.below hS).cb).2.2.1 |>.trans (by rw [HVA.out]))
    refine E.wp_region_flow2_lit [(1, false), (2, false), (3, false), (4, false), (6, false), (7, false), (8, false), (9, false), (10, false), (0, true), (5, true), (11, true), (12, false), (13, true)] (fun wS => Below w1.heap.size w1 wS) (by kernel_rfl) (by kernel_rfl) (by kernel_rfl) (Below.refl _ _).drew ?_
    have HW1 : Hid (IntKind.i64.wrap ((i : Int) + 1) = (i : Int) + 1) := Lib.hid (by rw [IntKind.wrap_i64]; omega)
    repeat (first | (refine' E.flow2_pass (o := _) rfl _ _; (focus rfl); simp only [Act.put, List.setIfInBounds_toArray, List.set_cons_zero, List.set_cons_succ]) | (refine' E.flow2_take (v := _) (o := _) rfl _ _ _; rotate_left; (focus rfl); (focus (intro wS hS; have hE := Ext.refl wS; (have c0 := HC.out wS hS; have hw1 := HW1.out; have htn : ((i : Int) + 1).toNat = i + 1 := (by omega); have hb1 : (0 : Int) ≤ (i : Int) + 1 := (by omega); have hb2 : (i : Int) + 1 ≤ (l.length : Int) := (by omega); have hb3 : i ≤ l.length := (by omega); have hb4 : i ≤ cap := (by omega); have hb5 : (i : Int) ≤ (cap : Int) := (by omega)); go_simp; try (with_reducible (first | exact ⟨rfl, hS, hE⟩ | rfl)); done)); simp only [Act.put, List.setIfInBounds_toArray, List.set_cons_zero, List.set_cons_succ]))
    refine E.flow2_turn (o := _) rfl rfl ?_
    intro wT hE hS K hK
    go_simp
    have hO0 : Ou w1 (wT.alloc (.cells #[] 54)) (.slice (some ⟨wT.heap.size, 0, none⟩) 0 0) ([] : List Nm) := ⟨Rs.empty wT hS.size, hS.trans (bel_box.mono hS.size)⟩
    refine hK _ _ hO0.bl ?_
    have HO0 := Lib.hid hO0
    clear hE hS hK K hO0
    simp only [Act.put, List.setIfInBounds_toArray, List.set_cons_zero, List.set_cons_succ]
    refine E.flow2_turn (o := _) rfl rfl ?_
    intro wU hE hS K hK
    refine turn_append (α := Nm) (m := l.take i) (.tmp 108) (.tmp 112) rfl rfl (HO0.out.rs.below hE) (some ⟨b, off, none⟩) cap (by rw [List.length_take, Nat.min_eq_left (by omega)]; rfl) (fun h => by cases h) (news_take (HR1.out.below hS)) (by rw [List.length_take]; simp; have := HL.out; omega) hS.size ?_
    intro v2 w2 h2 hg2
    have hO2 : Ou w1 w2 v2 ([] ++ l.take i) := ⟨h2, hS.grown hg2 hS.size (fun j hj => Sl.ge HO0.out.rs j hj)⟩
    refine hK _ _ hO2.bl ?_
    have HO2 := Lib.hid hO2
    clear hE hS hK K hO2 h2 hg2 HO0
    simp only [Act.put, List.setIfInBounds_toArray, List.set_cons_zero, List.set_cons_succ]
    refine E.flow2_turn (o := _) rfl rfl ?_
    intro wV hE hS K hK
    refine turn_append (α := Nm) (m := l.drop (i + 1)) (.tmp 113) (.tmp 118) rfl rfl (HO2.out.rs.below hE) (if cap = i + 1 then some ⟨b, off, none⟩ else some ⟨b, off + (i + 1) * 3, none⟩) (cap - (i + 1)) (by rw [List.length_drop]; rfl) (fun h => if_some h) (news_drop2 (HR1.out.below hS) hlc) (by rw [List.length_append, List.length_take, List.length_drop]; simp; have := HL.out; omega) hS.size ?_
    intro v3 w3 h3 hg3
    have hO3 : Ou w1 w3 v3 ([] ++ l.take i ++ l.drop (i + 1)) := ⟨h3, hS.grown hg3 hS.size (fun j hj => Sl.ge HO2.out.rs j hj)⟩
    obtain ⟨A3, k3, hv3, _, _⟩ := h3.any
    subst hv3
    refine hK _ _ hO3.bl ?_
    have HO3 := Lib.hid hO3
    clear hE hS hK K hO3 h3 hg3 HO2
    simp only [Act.put, List.setIfInBounds_toArray, List.set_cons_zero, List.set_cons_succ]
    repeat (first | (refine' E.flow2_pass (o := _) rfl _ _; (focus rfl); simp only [Act.put, List.setIfInBounds_toArray, List.set_cons_zero, List.set_cons_succ]) | (refine' E.flow2_take (v := _) (o := _) rfl _ _ _; rotate_left; (focus rfl); (focus (intro wS hS; have hE := Ext.refl wS; (skip); go_simp; try (with_reducible (first | exact ⟨rfl, hS, hE⟩ | rfl)); done)); simp only [Act.put, List.setIfInBounds_toArray, List.set_cons_zero, List.set_cons_succ]))
    refine E.flow2_last (o := _) rfl rfl ?_
    intro wX hE hS K hK
    refine turn_cell (β := Cv) 27 (.tmp 120) (.tmp 119) rfl w.heap.size 2 cv { cv with c := ⟨A3, _, k3⟩ } rfl rfl (HF1.out.below hS).cb (by decide) rfl rfl size27 ?_
    intro w5 hb5 hg5 hs5
    refine hK _ _ ?_
    have HF5 := Lib.hid ((HF1.out.below hS).cell (cv' := { cv with c := ⟨A3, _, k3⟩ }) hb5 hg5)
    have HR5 := Lib.hid ((HO3.out.rs.below hE).grown hg5 (HF1.out.below hS).cb (by decide))
    clear hE hS hK K hb5 hg5 hs5
    simp only [Act.put, List.setIfInBounds_toArray, List.set_cons_zero, List.set_cons_succ]
    go_wp2_with (first
      | (refine rw_load (α := Cv) rfl (.tmp 2) rfl w.heap.size 0 rfl { cv with c := ⟨A3, _, k3⟩ } (range_row HF5.out.cb) ?_)
      | (refine rw_store (α := Cv) rfl (.tmp 4) (.tmp 121) rfl (w.heap.size + 2) { cv with c := ⟨A3, _, k3⟩ } _ (arr_size _) rfl rfl HF5.out.zb ?_; intro w6 hb6 hg6 hs6; have HC6 := Lib.hid hb6; have HB6 := Lib.hid (HF5.out.ret hg6); have HR6 := Lib.hid (HR5.out.grown hg6 HF5.out.zb (by decide)); clear hb6 hg6 hs6))
    all_goals
      (try simp only [Exit.inBlock, Exit.then])
      refine bodyPost_ret (res_row (α := Cv) Tryz.results85 _ _ (w.heap.size + 2) { cv with c := ⟨A3, _, k3⟩ } (.bool true) rfl rfl HC6.out) rfl ?_
      exact ⟨_, rfl, ⟨HCA.out.hs.below HB6.out, HCA.out.fs.below HB6.out, HR6.out.mono (Nat.zero_le _), HCA.out.bs.below HB6.out⟩, HB6.out⟩
  · have hfs : (find kN c.ns (x.up, x.name)) = none := find_none.2 (fun y hy => by simpa using hno y hy)
    rw [hfs, if_neg (by simp)]
    obtain rfl : P = -1 := hP.trans hpi
    clear hs hP hpi hfs hno
    go_enter Tryz.func85, Tryz.ntmps85
    go_wp2_with (first
      | (refine rw_alloc (α := Cv) rfl rfl ?_)
      | (refine rw_load (α := Cv) rfl (.tmp 2) rfl w.heap.size 0 rfl cv (range_row HF0.out.cb) ?_))
    refine HP.out.mono ?_
    rintro r w1 ⟨rfl, hb1⟩
    have HF1 := Lib.hid (HF0.out.below hb1)
    clear hb1 HP c0 x0 x1 x2 x3 x4 x7
    go_wp2_with (first
      | (refine rw_load (α := Cv) rfl (.tmp 2) rfl w.heap.size 0 rfl cv (range_row HF1.out.cb) ?_)
      | (refine rw_store (α := Cv) rfl (.tmp 4) (.tmp 107) rfl (w.heap.size + 2) cv _ (arr_size _) rfl rfl HF1.out.zb ?_; intro w6 hb6 hg6 hs6; have HC6 := Lib.hid hb6; have HB6 := Lib.hid (HF1.out.ret hg6); clear hb6 hg6 hs6))
    (try simp only [Exit.inBlock, Exit.then])
    refine bodyPost_ret (res_row (α := Cv) Tryz.results85 _ _ (w.heap.size + 2) cv (.bool false) rfl rfl HC6.out) rfl ?_
    exact ⟨_, rfl, HCA.out.below HB6.out, HB6.out⟩
end Go.Proofs.YtokhnbdhcehonaaGreat
/- index: the document's goes: blocks. -/
namespace Go.Proofs.YtokhnbdhcehonaaGreat
open Go Go.RowKit Row
set_option maxRecDepth 100000
set_option maxHeartbeats 16000000 in
theorem goes_bl {c : Ca} {cv : Cv} {w : World} (h : CaAt w cv c) (hf : Few c 990) (hs : Srt kB lB c.bs) (x : Ch) (hk : x.k = 9) :
    Calls Tryz.prog 85 #[.agg (arr cv), .agg (arr x)] w (GoV (if (find kB c.bs (x.up, x.no)).isSome = true then { c with bs := del kB c.bs (x.up, x.no) } else c) (find kB c.bs (x.up, x.no)).isSome w) := by
  have hF0 := Fr.start w cv x
  obtain ⟨⟨x0, x1, x2, x3⟩, x4, -, x7, -⟩ := ch_cells hF0.xb
  have c0 := (cv_cells hF0.cb).2.2.2
  have HP := Lib.hid (pblock_any (h.bs.below hF0.bl) x.up x.no)
  have HR := Lib.hid (h.bs.below hF0.bl)
  have HL := Lib.hid hf.bs
  have hk2 : (x.k == 2) = false := by simp [hk]
  have hk4 : (x.k == 4) = false := by simp [hk]
  have hk5 : (x.k == 5) = false := by simp [hk]
  have hk7 : (x.k == 7) = false := by simp [hk]
  have HCA := Lib.hid h
  have HF0 := Lib.hid hF0
  clear h hf hF0 hk
  have hm63 : maxLen = 9223372036854775807 := rfl
  obtain ⟨A, cap, hv, hlc, hcap⟩ := HR.out.any
  rw [hv] at HR c0
  have HVA := Lib.hid hv
  clear hv
  obtain ⟨P, hP⟩ : ∃ P, P = plc (fun y => decide (kB y = (x.up, x.no))) c.bs := ⟨_, rfl⟩
  rw [← hP] at HP
  rcases plc_cases (fun y => decide (kB y = (x.up, x.no))) c.bs with ⟨i, hi, hpi, he, -⟩ | ⟨hpi, hno⟩
  · have hki : kB (c.bs[i]) = (x.up, x.no) := by simpa using he
    have hfs : (find kB c.bs (x.up, x.no)).isSome = true := by
      cases hh : find kB c.bs (x.up, x.no) with
      | none => exact absurd hki (find_none.1 hh _ (List.getElem_mem hi))
      | some y => rfl
    rw [hfs, if_pos rfl, ← hki, del_at lB_lin hs hi]
    obtain rfl : P = (i : Int) := hP.trans hpi
    obtain ⟨b, off, cap', he, _, _⟩ := HR.out.shape (by omega)
    cases he
    clear hki he hs hP hpi hfs
    generalize c.bs = l at *
    have hi0 : decide ((i : Int) < 0) = false := decide_eq_false (by omega)
    go_enter Tryz.func85, Tryz.ntmps85
    go_wp2_with (first
      | (refine rw_alloc (α := Cv) rfl rfl ?_)
      | (refine rw_load (α := Cv) rfl (.tmp 2) rfl w.heap.size 0 rfl cv (range_row HF0.out.cb) ?_))
    refine HP.out.mono ?_
    rintro r w1 ⟨rfl, hb1⟩
    have HF1 := Lib.hid (HF0.out.below hb1)
    have HR1 := Lib.hid (HR.out.below hb1)
    clear hb1 HP c0 x0 x1 x2 x3 x4 x7
    go_wp2_with fail
    have HC : Hid (∀ wS, Below w1.heap.size w1 wS → wS.cell? ⟨w.heap.size, 3, none⟩ = some (.slice (some ⟨b, off, none⟩) l.length cap)) := Lib.hid (fun wS hS => (cv_cells (HF1.out.below hS).cb).2.2.2 |>.trans (by rw [HVA.out]))
    refine E.wp_region_flow2_lit [(1, false), (2, false), (3, false), (4, false), (6, false), (7, false), (8, false), (9, false), (10, false), (0, true), (5, true), (11, true), (12, false), (13, true)] (fun wS => Below w1.heap.size w1 wS) (by kernel_rfl) (by kernel_rfl) (by kernel_rfl) (Below.refl _ _).drew ?_
    have HW1 : Hid (IntKind.i64.wrap ((i : Int) + 1) = (i : Int) + 1) := Lib.hid (by rw [IntKind.wrap_i64]; omega)
    repeat (first | (refine' E.flow2_pass (o := _) rfl _ _; (focus rfl); simp only [Act.put, List.setIfInBounds_toArray, List.set_cons_zero, List.set_cons_succ]) | (refine' E.flow2_take (v := _) (o := _) rfl _ _ _; rotate_left; (focus rfl); (focus (intro wS hS; have hE := Ext.refl wS; (have c0 := HC.out wS hS; have hw1 := HW1.out; have htn : ((i : Int) + 1).toNat = i + 1 := (by omega); have hb1 : (0 : Int) ≤ (i : Int) + 1 := (by omega); have hb2 : (i : Int) + 1 ≤ (l.length : Int) := (by omega); have hb3 : i ≤ l.length := (by omega); have hb4 : i ≤ cap := (by omega); have hb5 : (i : Int) ≤ (cap : Int) := (by omega)); go_simp; try (with_reducible (first | exact ⟨rfl, hS, hE⟩ | rfl)); done)); simp only [Act.put, List.setIfInBounds_toArray, List.set_cons_zero, List.set_cons_succ]))
    refine E.flow2_turn (o := _) rfl rfl ?_
    intro wT hE hS K hK
    go_simp
    have hO0 : Ou w1 (wT.alloc (.cells #[] 59)) (.slice (some ⟨wT.heap.size, 0, none⟩) 0 0) ([] : List Bl) := ⟨Rs.empty wT hS.size, hS.trans (bel_box.mono hS.size)⟩
    refine hK _ _ hO0.bl ?_
    have HO0 := Lib.hid hO0
    clear hE hS hK K hO0
    simp only [Act.put, List.setIfInBounds_toArray, List.set_cons_zero, List.set_cons_succ]
    refine E.flow2_turn (o := _) rfl rfl ?_
    intro wU hE hS K hK
    refine turn_append (α := Bl) (m := l.take i) (.tmp 21) (.tmp 25) rfl rfl (HO0.out.rs.below hE) (some ⟨b, off, none⟩) cap (by rw [List.length_take, Nat.min_eq_left (by omega)]; rfl) (fun h => by cases h) (news_take (HR1.out.below hS)) (by rw [List.length_take]; simp; have := HL.out; omega) hS.size ?_
    intro v2 w2 h2 hg2
    have hO2 : Ou w1 w2 v2 ([] ++ l.take i) := ⟨h2, hS.grown hg2 hS.size (fun j hj => Sl.ge HO0.out.rs j hj)⟩
    refine hK _ _ hO2.bl ?_
    have HO2 := Lib.hid hO2
    clear hE hS hK K hO2 h2 hg2 HO0
    simp only [Act.put, List.setIfInBounds_toArray, List.set_cons_zero, List.set_cons_succ]
    refine E.flow2_turn (o := _) rfl rfl ?_
    intro wV hE hS K hK
    refine turn_append (α := Bl) (m := l.drop (i + 1)) (.tmp 26) (.tmp 31) rfl rfl (HO2.out.rs.below hE) (if cap = i + 1 then some ⟨b, off, none⟩ else some ⟨b, off + (i + 1) * 3, none⟩) (cap - (i + 1)) (by rw [List.length_drop]; rfl) (fun h => if_some h) (news_drop2 (HR1.out.below hS) hlc) (by rw [List.length_append, List.length_take, List.length_drop]; simp; have := HL.out; omega) hS.size ?_
    intro v3 w3 h3 hg3
    have hO3 : Ou w1 w3 v3 ([] ++ l.take i ++ l.drop (i + 1)) := ⟨h3, hS.grown hg3 hS.size (fun j hj => Sl.ge HO2.out.rs j hj)⟩
    obtain ⟨A3, k3, hv3, _, _⟩ := h3.any
    subst hv3
    refine hK _ _ hO3.bl ?_
    have HO3 := Lib.hid hO3
    clear hE hS hK K hO3 h3 hg3 HO2
    simp only [Act.put, List.setIfInBounds_toArray, List.set_cons_zero, List.set_cons_succ]
    repeat (first | (refine' E.flow2_pass (o := _) rfl _ _; (focus rfl); simp only [Act.put, List.setIfInBounds_toArray, List.set_cons_zero, List.set_cons_succ]) | (refine' E.flow2_take (v := _) (o := _) rfl _ _ _; rotate_left; (focus rfl); (focus (intro wS hS; have hE := Ext.refl wS; (skip); go_simp; try (with_reducible (first | exact ⟨rfl, hS, hE⟩ | rfl)); done)); simp only [Act.put, List.setIfInBounds_toArray, List.set_cons_zero, List.set_cons_succ]))
    refine E.flow2_last (o := _) rfl rfl ?_
    intro wX hE hS K hK
    refine turn_cell (β := Cv) 28 (.tmp 33) (.tmp 32) rfl w.heap.size 3 cv { cv with d := ⟨A3, _, k3⟩ } rfl rfl (HF1.out.below hS).cb (by decide) rfl rfl size28 ?_
    intro w5 hb5 hg5 hs5
    refine hK _ _ ?_
    have HF5 := Lib.hid ((HF1.out.below hS).cell (cv' := { cv with d := ⟨A3, _, k3⟩ }) hb5 hg5)
    have HR5 := Lib.hid ((HO3.out.rs.below hE).grown hg5 (HF1.out.below hS).cb (by decide))
    clear hE hS hK K hb5 hg5 hs5
    simp only [Act.put, List.setIfInBounds_toArray, List.set_cons_zero, List.set_cons_succ]
    go_wp2_with (first
      | (refine rw_load (α := Cv) rfl (.tmp 2) rfl w.heap.size 0 rfl { cv with d := ⟨A3, _, k3⟩ } (range_row HF5.out.cb) ?_)
      | (refine rw_store (α := Cv) rfl (.tmp 4) (.tmp 121) rfl (w.heap.size + 2) { cv with d := ⟨A3, _, k3⟩ } _ (arr_size _) rfl rfl HF5.out.zb ?_; intro w6 hb6 hg6 hs6; have HC6 := Lib.hid hb6; have HB6 := Lib.hid (HF5.out.ret hg6); have HR6 := Lib.hid (HR5.out.grown hg6 HF5.out.zb (by decide)); clear hb6 hg6 hs6))
    all_goals
      (try simp only [Exit.inBlock, Exit.then])
      refine bodyPost_ret (res_row (α := Cv) Tryz.results85 _ _ (w.heap.size + 2) { cv with d := ⟨A3, _, k3⟩ } (.bool true) rfl rfl HC6.out) rfl ?_
      exact ⟨_, rfl, ⟨HCA.out.hs.below HB6.out, HCA.out.fs.below HB6.out, HCA.out.ns.below HB6.out, HR6.out.mono (Nat.zero_le _)⟩, HB6.out⟩
  · have hfs : (find kB c.bs (x.up, x.no)) = none := find_none.2 (fun y hy => by simpa using hno y hy)
    rw [hfs, if_neg (by simp)]
    obtain rfl : P = -1 := hP.trans hpi
    clear hs hP hpi hfs hno
    go_enter Tryz.func85, Tryz.ntmps85
    go_wp2_with (first
      | (refine rw_alloc (α := Cv) rfl rfl ?_)
      | (refine rw_load (α := Cv) rfl (.tmp 2) rfl w.heap.size 0 rfl cv (range_row HF0.out.cb) ?_))
    refine HP.out.mono ?_
    rintro r w1 ⟨rfl, hb1⟩
    have HF1 := Lib.hid (HF0.out.below hb1)
    clear hb1 HP c0 x0 x1 x2 x3 x4 x7
    go_wp2_with (first
      | (refine rw_load (α := Cv) rfl (.tmp 2) rfl w.heap.size 0 rfl cv (range_row HF1.out.cb) ?_)
      | (refine rw_store (α := Cv) rfl (.tmp 4) (.tmp 20) rfl (w.heap.size + 2) cv _ (arr_size _) rfl rfl HF1.out.zb ?_; intro w6 hb6 hg6 hs6; have HC6 := Lib.hid hb6; have HB6 := Lib.hid (HF1.out.ret hg6); clear hb6 hg6 hs6))
    (try simp only [Exit.inBlock, Exit.then])
    refine bodyPost_ret (res_row (α := Cv) Tryz.results85 _ _ (w.heap.size + 2) cv (.bool false) rfl rfl HC6.out) rfl ?_
    exact ⟨_, rfl, HCA.out.below HB6.out, HB6.out⟩
end Go.Proofs.YtokhnbdhcehonaaGreat
/- index: the document's goes: files. -/
namespace Go.Proofs.YtokhnbdhcehonaaGreat
open Go Go.RowKit Row
set_option maxRecDepth 100000
set_option maxHeartbeats 16000000 in
theorem goes_fl {c : Ca} {cv : Cv} {w : World} (h : CaAt w cv c) (hf : Few c 990) (hs : Srt kF lF c.fs) (x : Ch) (hk : x.k = 4) :
    Calls Tryz.prog 85 #[.agg (arr cv), .agg (arr x)] w (GoV (if (find kF c.fs x.up).isSome = true then bareC { c with fs := del kF c.fs x.up } x.up else c) (find kF c.fs x.up).isSome w) := by
  have hF0 := Fr.start w cv x
  obtain ⟨⟨x0, x1, x2, x3⟩, x4, -, x7, -⟩ := ch_cells hF0.xb
  have c0 := (cv_cells hF0.cb).2.1
  have HP := Lib.hid (pfile_any (h.fs.below hF0.bl) x.up)
  have HR := Lib.hid (h.fs.below hF0.bl)
  have HL := Lib.hid hf.fs
  have hk2 : (x.k == 2) = false := by simp [hk]
  have hk4 : (x.k == 4) = true := by simp [hk]
  have HCA := Lib.hid h
  have HFW := Lib.hid hf
  have HF0 := Lib.hid hF0
  clear h hf hF0 hk
  have hm63 : maxLen = 9223372036854775807 := rfl
  obtain ⟨A, cap, hv, hlc, hcap⟩ := HR.out.any
  rw [hv] at HR c0
  have HVA := Lib.hid hv
  clear hv
  obtain ⟨P, hP⟩ : ∃ P, P = plc (fun y => decide (kF y = x.up)) c.fs := ⟨_, rfl⟩
  rw [← hP] at HP
  rcases plc_cases (fun y => decide (kF y = x.up)) c.fs with ⟨i, hi, hpi, he, -⟩ | ⟨hpi, hno⟩
  · have hki : kF (c.fs[i]) = x.up := by simpa using he
    have hfs : (find kF c.fs x.up).isSome = true := by
      cases hh : find kF c.fs x.up with
      | none => exact absurd hki (find_none.1 hh _ (List.getElem_mem hi))
      | some y => rfl
    rw [hfs, if_pos rfl, show del kF c.fs x.up = c.fs.take i ++ c.fs.drop (i + 1) from (by have := del_at lF_lin hs hi; rw [hki] at this; exact this)]
    obtain rfl : P = (i : Int) := hP.trans hpi
    obtain ⟨b, off, cap', he, _, _⟩ := HR.out.shape (by omega)
    cases he
    clear hki he hs hP hpi hfs
    generalize hl : c.fs = l at *
    have HLF := Lib.hid hl
    clear hl
    have hi0 : decide ((i : Int) < 0) = false := decide_eq_false (by omega)
    go_enter Tryz.func85, Tryz.ntmps85
    go_wp2_with (first
      | (refine rw_alloc (α := Cv) rfl rfl ?_)
      | (refine rw_load (α := Cv) rfl (.tmp 2) rfl w.heap.size 0 rfl cv (range_row HF0.out.cb) ?_))
    refine HP.out.mono ?_
    rintro r w1 ⟨rfl, hb1⟩
    have HF1 := Lib.hid (HF0.out.below hb1)
    obtain ⟨⟨-, -, -, y3⟩, -⟩ := ch_cells HF1.out.xb
    have HBA := Lib.hid (pbare_any (HCA.out.below HF1.out.bl) HFW.out x.up)
    clear hb1 HP c0 x0 x1 x2 x3 x4 x7
    go_wp2_with (refine rw_load (α := Cv) rfl (.tmp 2) rfl w.heap.size 0 rfl cv (range_row HF1.out.cb) ?_)
    refine HBA.out.mono ?_
    rintro r w1b ⟨cv1, rfl, hca1, hb1b⟩
    have HF1b := Lib.hid (HF1.out.below hb1b)
    have HCA1b := Lib.hid hca1
    clear hb1b hca1 HBA y3
    go_wp2_with (refine rw_store (α := Cv) rfl (.tmp 2) (.tmp 71) rfl w.heap.size cv1 _ (arr_size _) rfl rfl HF1b.out.cb ?_; intro w1c hb1c hg1c hs1c; have HF1c := Lib.hid (HF1b.out.cell (cv' := cv1) hb1c hg1c); have HCA1 := Lib.hid (HCA1b.out.grown hg1c HF1b.out.cb); clear hb1c hg1c hs1c)
    have hrf : Rs w1c 0 cv1.b.v c.fs := HCA1.out.fs
    rw [HLF.out] at hrf
    obtain ⟨A2, cap, hv2, hlc, hcap⟩ := hrf.any
    rw [hv2] at hrf
    have HVA := Lib.hid hv2
    obtain ⟨b, off, cap3, he2, _, _⟩ := hrf.shape (by omega)
    cases he2
    have HR1c := Lib.hid hrf
    clear hrf hv2
    have HC : Hid (∀ wS, Below w1c.heap.size w1c wS → wS.cell? ⟨w.heap.size, 1, none⟩ = some (.slice (some ⟨b, off, none⟩) l.length cap)) := Lib.hid (fun wS hS => (cv_cells (HF1c.out.below hS).cb).2.1 |>.trans (by rw [HVA.out]))
    refine E.wp_region_flow2_lit [(1, false), (2, false), (3, false), (4, false), (6, false), (7, false), (8, false), (9, false), (10, false), (0, true), (5, true), (11, true), (12, false), (13, true)] (fun wS => Below w1c.heap.size w1c wS) (by kernel_rfl) (by kernel_rfl) (by kernel_rfl) (Below.refl _ _).drew ?_
    have HW1 : Hid (IntKind.i64.wrap ((i : Int) + 1) = (i : Int) + 1) := Lib.hid (by rw [IntKind.wrap_i64]; omega)
    repeat (first | (refine' E.flow2_pass (o := _) rfl _ _; (focus rfl); simp only [Act.put, List.setIfInBounds_toArray, List.set_cons_zero, List.set_cons_succ]) | (refine' E.flow2_take (v := _) (o := _) rfl _ _ _; rotate_left; (focus rfl); (focus (intro wS hS; have hE := Ext.refl wS; (have c0 := HC.out wS hS; have hw1 := HW1.out; have htn : ((i : Int) + 1).toNat = i + 1 := (by omega); have hb1 : (0 : Int) ≤ (i : Int) + 1 := (by omega); have hb2 : (i : Int) + 1 ≤ (l.length : Int) := (by omega); have hb3 : i ≤ l.length := (by omega); have hb4 : i ≤ cap := (by omega); have hb5 : (i : Int) ≤ (cap : Int) := (by omega)); go_simp; try (with_reducible (first | exact ⟨rfl, hS, hE⟩ | rfl)); done)); simp only [Act.put, List.setIfInBounds_toArray, List.set_cons_zero, List.set_cons_succ]))
    refine E.flow2_turn (o := _) rfl rfl ?_
    intro wT hE hS K hK
    go_simp
    have hO0 : Ou w1c (wT.alloc (.cells #[] 50)) (.slice (some ⟨wT.heap.size, 0, none⟩) 0 0) ([] : List Fl) := ⟨Rs.empty wT hS.size, hS.trans (bel_box.mono hS.size)⟩
    refine hK _ _ hO0.bl ?_
    have HO0 := Lib.hid hO0
    clear hE hS hK K hO0
    simp only [Act.put, List.setIfInBounds_toArray, List.set_cons_zero, List.set_cons_succ]
    refine E.flow2_turn (o := _) rfl rfl ?_
    intro wU hE hS K hK
    refine turn_append (α := Fl) (m := l.take i) (.tmp 72) (.tmp 76) rfl rfl (HO0.out.rs.below hE) (some ⟨b, off, none⟩) cap (by rw [List.length_take, Nat.min_eq_left (by omega)]; rfl) (fun h => by cases h) (news_take (HR1c.out.below hS)) (by rw [List.length_take]; simp; have := HL.out; omega) hS.size ?_
    intro v2 w2 h2 hg2
    have hO2 : Ou w1c w2 v2 ([] ++ l.take i) := ⟨h2, hS.grown hg2 hS.size (fun j hj => Sl.ge HO0.out.rs j hj)⟩
    refine hK _ _ hO2.bl ?_
    have HO2 := Lib.hid hO2
    clear hE hS hK K hO2 h2 hg2 HO0
    simp only [Act.put, List.setIfInBounds_toArray, List.set_cons_zero, List.set_cons_succ]
    refine E.flow2_turn (o := _) rfl rfl ?_
    intro wV hE hS K hK
    refine turn_append (α := Fl) (m := l.drop (i + 1)) (.tmp 77) (.tmp 82) rfl rfl (HO2.out.rs.below hE) (if cap = i + 1 then some ⟨b, off, none⟩ else some ⟨b, off + (i + 1) * 11, none⟩) (cap - (i + 1)) (by rw [List.length_drop]; rfl) (fun h => if_some h) (news_drop2 (HR1c.out.below hS) hlc) (by rw [List.length_append, List.length_take, List.length_drop]; simp; have := HL.out; omega) hS.size ?_
    intro v3 w3 h3 hg3
    have hO3 : Ou w1c w3 v3 ([] ++ l.take i ++ l.drop (i + 1)) := ⟨h3, hS.grown hg3 hS.size (fun j hj => Sl.ge HO2.out.rs j hj)⟩
    obtain ⟨A3, k3, hv3, _, _⟩ := h3.any
    subst hv3
    refine hK _ _ hO3.bl ?_
    have HO3 := Lib.hid hO3
    clear hE hS hK K hO3 h3 hg3 HO2
    simp only [Act.put, List.setIfInBounds_toArray, List.set_cons_zero, List.set_cons_succ]
    repeat (first | (refine' E.flow2_pass (o := _) rfl _ _; (focus rfl); simp only [Act.put, List.setIfInBounds_toArray, List.set_cons_zero, List.set_cons_succ]) | (refine' E.flow2_take (v := _) (o := _) rfl _ _ _; rotate_left; (focus rfl); (focus (intro wS hS; have hE := Ext.refl wS; (skip); go_simp; try (with_reducible (first | exact ⟨rfl, hS, hE⟩ | rfl)); done)); simp only [Act.put, List.setIfInBounds_toArray, List.set_cons_zero, List.set_cons_succ]))
    refine E.flow2_last (o := _) rfl rfl ?_
    intro wX hE hS K hK
    refine turn_cell (β := Cv) 26 (.tmp 84) (.tmp 83) rfl w.heap.size 1 cv1 { cv1 with b := ⟨A3, _, k3⟩ } rfl rfl (HF1c.out.below hS).cb (by decide) rfl rfl size26 ?_
    intro w5 hb5 hg5 hs5
    refine hK _ _ ?_
    have HF5 := Lib.hid ((HF1c.out.below hS).cell (cv' := { cv1 with b := ⟨A3, _, k3⟩ }) hb5 hg5)
    have HR5 := Lib.hid ((HO3.out.rs.below hE).grown hg5 (HF1c.out.below hS).cb (by decide))
    have HCA5 := Lib.hid ((HCA1.out.below hS).grown hg5 (HF1c.out.below hS).cb)
    clear hE hS hK K hb5 hg5 hs5
    simp only [Act.put, List.setIfInBounds_toArray, List.set_cons_zero, List.set_cons_succ]
    go_wp2_with (first
      | (refine rw_load (α := Cv) rfl (.tmp 2) rfl w.heap.size 0 rfl { cv1 with b := ⟨A3, _, k3⟩ } (range_row HF5.out.cb) ?_)
      | (refine rw_store (α := Cv) rfl (.tmp 4) (.tmp 121) rfl (w.heap.size + 2) { cv1 with b := ⟨A3, _, k3⟩ } _ (arr_size _) rfl rfl HF5.out.zb ?_; intro w6 hb6 hg6 hs6; have HC6 := Lib.hid hb6; have HB6 := Lib.hid (HF5.out.ret hg6); have HR6 := Lib.hid (HR5.out.grown hg6 HF5.out.zb (by decide)); have HCA6 := Lib.hid (HCA5.out.grown hg6 HF5.out.zb); clear hb6 hg6 hs6))
    all_goals
      (try simp only [Exit.inBlock, Exit.then])
      refine bodyPost_ret (res_row (α := Cv) Tryz.results85 _ _ (w.heap.size + 2) { cv1 with b := ⟨A3, _, k3⟩ } (.bool true) rfl rfl HC6.out) rfl ?_
      exact ⟨_, rfl, ⟨HCA6.out.hs, HR6.out.mono (Nat.zero_le _), HCA6.out.ns, HCA6.out.bs⟩, HB6.out⟩
  · have hfs : (find kF c.fs x.up) = none := find_none.2 (fun y hy => by simpa using hno y hy)
    rw [hfs, if_neg (by simp)]
    obtain rfl : P = -1 := hP.trans hpi
    clear hs hP hpi hfs hno
    go_enter Tryz.func85, Tryz.ntmps85
    go_wp2_with (first
      | (refine rw_alloc (α := Cv) rfl rfl ?_)
      | (refine rw_load (α := Cv) rfl (.tmp 2) rfl w.heap.size 0 rfl cv (range_row HF0.out.cb) ?_))
    refine HP.out.mono ?_
    rintro r w1 ⟨rfl, hb1⟩
    have HF1 := Lib.hid (HF0.out.below hb1)
    clear hb1 HP c0 x0 x1 x2 x3 x4 x7
    go_wp2_with (first
      | (refine rw_load (α := Cv) rfl (.tmp 2) rfl w.heap.size 0 rfl cv (range_row HF1.out.cb) ?_)
      | (refine rw_store (α := Cv) rfl (.tmp 4) (.tmp 67) rfl (w.heap.size + 2) cv _ (arr_size _) rfl rfl HF1.out.zb ?_; intro w6 hb6 hg6 hs6; have HC6 := Lib.hid hb6; have HB6 := Lib.hid (HF1.out.ret hg6); clear hb6 hg6 hs6))
    (try simp only [Exit.inBlock, Exit.then])
    refine bodyPost_ret (res_row (α := Cv) Tryz.results85 _ _ (w.heap.size + 2) cv (.bool false) rfl rfl HC6.out) rfl ?_
    exact ⟨_, rfl, HCA.out.below HB6.out, HB6.out⟩
end Go.Proofs.YtokhnbdhcehonaaGreat
/- index: the document's goes: bare; goes as a whole. -/
namespace Go.Proofs.YtokhnbdhcehonaaGreat
open Go Go.RowKit Row
set_option maxRecDepth 100000
set_option maxHeartbeats 16000000 in
theorem goes_ba {c : Ca} {cv : Cv} {w : World} (h : CaAt w cv c) (hf : Few c 990) (x : Ch) (hk : x.k = 5) :
    Calls Tryz.prog 85 #[.agg (arr cv), .agg (arr x)] w (GoV (if (find kF c.fs x.up).isSome = true then bareC c x.up else c) (find kF c.fs x.up).isSome w) := by
  have hF0 := Fr.start w cv x
  obtain ⟨⟨x0, x1, x2, x3⟩, -⟩ := ch_cells hF0.xb
  have HP := Lib.hid (pfile_any (h.fs.below hF0.bl) x.up)
  have hk2 : (x.k == 2) = false := by simp [hk]
  have hk4 : (x.k == 4) = false := by simp [hk]
  have hk5 : (x.k == 5) = true := by simp [hk]
  have HCA := Lib.hid h
  have HFW := Lib.hid hf
  have HF0 := Lib.hid hF0
  clear h hf hF0 hk
  have hm63 : maxLen = 9223372036854775807 := rfl
  obtain ⟨P, hP⟩ : ∃ P, P = plc (fun y => decide (kF y = x.up)) c.fs := ⟨_, rfl⟩
  rw [← hP] at HP
  rcases plc_cases (fun y => decide (kF y = x.up)) c.fs with ⟨i, hi, hpi, he, -⟩ | ⟨hpi, hno⟩
  · have hki : kF (c.fs[i]) = x.up := by simpa using he
    have hfs : (find kF c.fs x.up).isSome = true := by
      cases hh : find kF c.fs x.up with
      | none => exact absurd hki (find_none.1 hh _ (List.getElem_mem hi))
      | some y => rfl
    rw [hfs, if_pos rfl]
    obtain rfl : P = (i : Int) := hP.trans hpi
    clear hki he hP hpi hfs
    have hi0 : decide ((i : Int) < 0) = false := decide_eq_false (by omega)
    go_enter Tryz.func85, Tryz.ntmps85
    go_wp2_with (first
      | (refine rw_alloc (α := Cv) rfl rfl ?_)
      | (refine rw_load (α := Cv) rfl (.tmp 2) rfl w.heap.size 0 rfl cv (range_row HF0.out.cb) ?_))
    refine HP.out.mono ?_
    rintro r w1 ⟨rfl, hb1⟩
    have HF1 := Lib.hid (HF0.out.below hb1)
    obtain ⟨⟨-, -, -, y3⟩, -⟩ := ch_cells HF1.out.xb
    have HBA := Lib.hid (pbare_any (HCA.out.below HF1.out.bl) HFW.out x.up)
    clear hb1 HP x0 x1 x2 x3
    go_wp2_with (refine rw_load (α := Cv) rfl (.tmp 2) rfl w.heap.size 0 rfl cv (range_row HF1.out.cb) ?_)
    refine HBA.out.mono ?_
    rintro r w1b ⟨cv1, rfl, hca1, hb1b⟩
    have HF1b := Lib.hid (HF1.out.below hb1b)
    have HCA1b := Lib.hid hca1
    clear hb1b hca1 HBA y3
    go_wp2_with (first
      | (refine rw_store (α := Cv) rfl (.tmp 2) (.tmp 96) rfl w.heap.size cv1 _ (arr_size _) rfl rfl HF1b.out.cb ?_; intro w1c hb1c hg1c hs1c; have HF1c := Lib.hid (HF1b.out.cell (cv' := cv1) hb1c hg1c); have HCA1 := Lib.hid (HCA1b.out.grown hg1c HF1b.out.cb); clear hb1c hg1c hs1c)
      | (refine rw_load (α := Cv) rfl (.tmp 2) rfl w.heap.size 0 rfl cv1 (range_row HF1c.out.cb) ?_)
      | (refine rw_store (α := Cv) rfl (.tmp 4) (.tmp 121) rfl (w.heap.size + 2) cv1 _ (arr_size _) rfl rfl HF1c.out.zb ?_; intro w6 hb6 hg6 hs6; have HC6 := Lib.hid hb6; have HB6 := Lib.hid (HF1c.out.ret hg6); have HCA6 := Lib.hid (HCA1.out.grown hg6 HF1c.out.zb); clear hb6 hg6 hs6))
    (try simp only [Exit.inBlock, Exit.then])
    refine bodyPost_ret (res_row (α := Cv) Tryz.results85 _ _ (w.heap.size + 2) cv1 (.bool true) rfl rfl HC6.out) rfl ?_
    exact ⟨_, rfl, HCA6.out, HB6.out⟩
  · have hfs : (find kF c.fs x.up) = none := find_none.2 (fun y hy => by simpa using hno y hy)
    rw [hfs, if_neg (by simp)]
    obtain rfl : P = -1 := hP.trans hpi
    clear hP hpi hfs hno
    go_enter Tryz.func85, Tryz.ntmps85
    go_wp2_with (first
      | (refine rw_alloc (α := Cv) rfl rfl ?_)
      | (refine rw_load (α := Cv) rfl (.tmp 2) rfl w.heap.size 0 rfl cv (range_row HF0.out.cb) ?_))
    refine HP.out.mono ?_
    rintro r w1 ⟨rfl, hb1⟩
    have HF1 := Lib.hid (HF0.out.below hb1)
    clear hb1 HP x0 x1 x2 x3
    go_wp2_with (first
      | (refine rw_load (α := Cv) rfl (.tmp 2) rfl w.heap.size 0 rfl cv (range_row HF1.out.cb) ?_)
      | (refine rw_store (α := Cv) rfl (.tmp 4) (.tmp 92) rfl (w.heap.size + 2) cv _ (arr_size _) rfl rfl HF1.out.zb ?_; intro w6 hb6 hg6 hs6; have HC6 := Lib.hid hb6; have HB6 := Lib.hid (HF1.out.ret hg6); clear hb6 hg6 hs6))
    (try simp only [Exit.inBlock, Exit.then])
    refine bodyPost_ret (res_row (α := Cv) Tryz.results85 _ _ (w.heap.size + 2) cv (.bool false) rfl rfl HC6.out) rfl ?_
    exact ⟨_, rfl, HCA.out.below HB6.out, HB6.out⟩
/-- a change done, where it may be -/
def dooC (c : Ca) (x : Ch) : Ca × Bool := if (doC c x).2 = true then ((doC c x).1, true) else (c, false)
theorem dooC_of (c : Ca) (x : Ch) (d : Ca) (b : Bool) (h : doC c x = (d, b)) : dooC c x = (if b = true then d else c, b) := by
  unfold dooC
  rw [h]
  cases b <;> simp
theorem goes_any {c : Ca} {cv : Cv} {w : World} (h : CaAt w cv c) (hf : Few c 990) (hr : Rises c) (x : Ch) (hk : x.k = 2 ∨ x.k = 4 ∨ x.k = 5 ∨ x.k = 7 ∨ x.k = 9) :
    Calls Tryz.prog 85 #[.agg (arr cv), .agg (arr x)] w (GoV (dooC c x).1 (dooC c x).2 w) := by
  rcases hk with hk | hk | hk | hk | hk
  · rw [dooC_of c x _ _ (show doC c x = _ by unfold doC handlesC; rw [if_pos (by omega), if_pos hk])]
    exact goes_hd h hf hr.hs x hk
  · rw [dooC_of c x _ _ (show doC c x = _ by unfold doC filesC; rw [if_neg (by omega), if_pos (by omega), if_neg (by omega), if_pos hk])]
    exact goes_fl h hf hr.fs x hk
  · rw [dooC_of c x _ _ (show doC c x = _ by unfold doC filesC; rw [if_neg (by omega), if_pos (by omega), if_neg (by omega), if_neg (by omega)])]
    exact goes_ba h hf x hk
  · rw [dooC_of c x _ _ (show doC c x = _ by unfold doC namesC; rw [if_neg (by omega), if_neg (by omega), if_pos (by omega), if_neg (by omega)])]
    exact goes_nm h hf hr.ns x hk
  · rw [dooC_of c x _ _ (show doC c x = _ by unfold doC blocksC; rw [if_neg (by omega), if_neg (by omega), if_neg (by omega), if_pos hk])]
    exact goes_bl h hf hr.bs x hk
end Go.Proofs.YtokhnbdhcehonaaGreat
