/- index: the document's putHeld. -/
import Derived.Test.YtokhnbdhcehonaaGreatBase
set_option linter.unusedSimpArgs false
set_option linter.unusedVariables false
namespace Go.Proofs.YtokhnbdhcehonaaGreat
open Go Go.RowKit Row
set_option maxRecDepth 100000
set_option maxHeartbeats 16000000 in
theorem putheld_any {l : List Hd} {v : Value} {w : World} (h : Rs w 0 v l) (hlen : l.length ≤ 990) (hs : Srt kH lH l) (x : Hd) (hno : ∀ y ∈ l, kH y ≠ kH x) :
    Calls Tryz.prog 80 #[v, .agg (arr x)] w fun r w' => ∃ v', r = .returned v' ∧ Rs w' 0 v' (put kH lH l x) ∧ Below w.heap.size w w' := by
  obtain ⟨A, cap, hv, hlc, hcap⟩ := h.any
  subst hv
  obtain ⟨W, hW⟩ : ∃ W, W = w.alloc (.cells (arr x) 40) := ⟨_, rfl⟩
  have hb0 : Below w.heap.size w W := by rw [hW]; exact bel_box
  have HX : Hid (W.heap[w.heap.size]? = some (.cells (arr x) 40)) := Lib.hid (by rw [hW]; exact heap_alloc_new _ _)
  have HR := Lib.hid (h.below hb0)
  have HB := Lib.hid hb0
  have HS := Lib.hid hs
  have HNO := Lib.hid hno
  have HW := Lib.hid hW
  have HL := Lib.hid hlen
  clear h hb0 hs hno hW
  have hm63 : maxLen = 9223372036854775807 := rfl
  go_enter Tryz.func80, Tryz.ntmps80
  go_wp2_with fail
  rw [← HW.out]
  go_loopw [5, 6, 7] (fun vo d i wq => ∃ (k : Nat) (done : Bool) (out : List Hd), k ≤ l.length ∧ i = .int .i64 k ∧ d = .bool done ∧ Pu kH lH l x k done out ∧ Ou W wq vo out) (fun _ _ i _ => l.length - (intOf i).toNat)
  case atStart => exact ⟨0, false, [], by omega, rfl, rfl, .start, .start W⟩
  case round =>
    obtain ⟨k, done, out, hk, rfl, rfl, hpu, hou⟩ := hrel
    have HP := Lib.hid hpu
    have HO := Lib.hid hou
    have HLE := Lib.hid (show out.length + 1 < 1000 by have := hpu.len lH_lin; omega)
    clear hpu hou
    by_cases hlt : k < l.length
    · have hltI : (k : Int) < (l.length : Int) := by omega
      obtain ⟨b, off, cap', he, _, _⟩ := HR.out.shape (by omega)
      cases he
      have HE := Lib.hid (And.intro (HR.out.range hlt) (show b < W.heap.size from HR.out.lt b rfl))
      have HNE := Lib.hid (HNO.out l[k] (List.getElem_mem hlt))
      cases done with
      | false =>
        obtain ⟨q, hq⟩ : ∃ q, q = lH (kH l[k]) (kH x) := ⟨_, rfl⟩
        have HQ := Lib.hid hq
        go_wp2_with fail
        refine wp_region_flow2_lit [(0, false), (1, false), (2, false), (3, false), (4, false), (5, false), (6, false), (7, false), (8, false), (9, false), (10, false)] (fun wS => Below wr.heap.size wr wS) (by kernel_rfl) (by kernel_rfl) (by kernel_rfl) (Below.refl _ _).drew ?_
        repeat (first | (refine' flow2_pass (o := _) rfl _ _; (focus rfl); simp only [Act.put, List.setIfInBounds_toArray, List.set_cons_zero, List.set_cons_succ]) | (refine' flow2_take (v := _) (o := _) rfl _ _ _; rotate_left; (focus rfl); (focus (intro wS hS; have hE := Ext.refl wS; (skip); go_simp; try (with_reducible (first | exact ⟨rfl, hS, hE⟩ | rfl)); done)); simp only [Act.put, List.setIfInBounds_toArray, List.set_cons_zero, List.set_cons_succ]))
        (refine flow2_take (v := .agg (arr l[k])) (o := _) rfl rfl (fun wS hS => gives_row rfl rfl (rangeAt_below HE.out.1 HE.out.2 (HO.out.below hS).bl) ⟨hS, Ext.refl wS⟩) ?_; simp only [Act.put, List.setIfInBounds_toArray, List.set_cons_zero, List.set_cons_succ])
        (refine flow2_take (v := .agg (arr x)) (o := _) rfl rfl (fun wS hS => gives_row rfl rfl (range_row (((HO.out.below hS).bl.block _ (heap_lt HX.out)).trans HX.out)) ⟨hS, Ext.refl wS⟩) ?_; simp only [Act.put, List.setIfInBounds_toArray, List.set_cons_zero, List.set_cons_succ])
        (refine' flow2_take (v := _) (o := _) rfl _ _ _; rotate_left; (focus rfl); (focus (intro wS hS; go_simp; refine (lheld_any _ _ _).mono ?_; rintro e w' ⟨rfl, hb⟩; refine ⟨?_, hS.trans (hb.mono hS.size), hb⟩; rfl)); simp only [Act.put, List.setIfInBounds_toArray, List.set_cons_zero, List.set_cons_succ])
        repeat (first | (refine' flow2_pass (o := _) rfl _ _; (focus rfl); simp only [Act.put, List.setIfInBounds_toArray, List.set_cons_zero, List.set_cons_succ]) | (refine' flow2_take (v := _) (o := _) rfl _ _ _; rotate_left; (focus rfl); (focus (intro wS hS; have hE := Ext.refl wS; (skip); go_simp; try (with_reducible (first | exact ⟨rfl, hS, hE⟩ | rfl)); done)); simp only [Act.put, List.setIfInBounds_toArray, List.set_cons_zero, List.set_cons_succ]))
        refine flow2_nil ?_
        intro wT hE hS
        rw [← HQ.out]
        have HT := Lib.hid (HO.out.below hS)
        clear hE hS
        cases q with
        | true =>
          go_wp2_with (first
            | (refine rw_load (α := Hd) rfl (.tmp 32) rfl b (off + k * 3) rfl l[k] (rangeAt_below HE.out.1 HE.out.2 HT.out.bl) ?_)
            | (refine rw_app1 (α := Hd) HT.out (by have := HLE.out; omega) (by decide) _ 34 (.tmp 29) (.tmp 33) rfl rfl rfl rfl rfl l[k] rfl rfl rfl ?_; intro v1 w1 h1; have H1 := Lib.hid h1; clear h1))
          go_roundw
          case rel => exact ⟨k + 1, false, out ++ [l[k]], by omega, by go_num, rfl, HP.out.low hlt HQ.out.symm, H1.out⟩
          case measure => simp [intOf]; omega
        | false =>
          have HP1 := Lib.hid (HP.out.turn lH_lin HS.out hlt HQ.out.symm)
          go_wp2_with (first
            | (refine rw_load (α := Hd) rfl (.tmp 3) rfl w.heap.size 0 rfl x (range_row ((HT.out.bl.block _ (heap_lt HX.out)).trans HX.out)) ?_)
            | (refine rw_app1 (α := Hd) HT.out (by have := HLE.out; omega) (by decide) _ 27 (.tmp 25) (.tmp 26) rfl rfl rfl rfl rfl x rfl rfl rfl ?_; intro v1 w1 h1; have H1 := Lib.hid h1; clear h1)
            | (refine rw_load (α := Hd) rfl (.tmp 32) rfl b (off + k * 3) rfl l[k] (rangeAt_below HE.out.1 HE.out.2 H1.out.bl) ?_)
            | (refine rw_app1 (α := Hd) H1.out (by have := HLE.out; simp; omega) (by decide) _ 34 (.tmp 29) (.tmp 33) rfl rfl rfl rfl rfl l[k] rfl rfl rfl ?_; intro v2 w2 h2; have H2 := Lib.hid h2; clear h2))
          go_roundw
          case rel => exact ⟨k + 1, true, out ++ [x] ++ [l[k]], by omega, by go_num, rfl, HP1.out.next lH_lin hlt HNE.out, H2.out⟩
          case measure => simp [intOf]; omega
      | true =>
        go_wp2_with fail
        refine wp_region_flow2_lit [(0, false), (1, false), (2, false), (3, false), (4, false), (5, false), (6, false), (7, false), (8, false), (9, false), (10, false)] (fun wS => Below wr.heap.size wr wS) (by kernel_rfl) (by kernel_rfl) (by kernel_rfl) (Below.refl _ _).drew ?_
        repeat (first | (refine' flow2_pass (o := _) rfl _ _; (focus rfl); simp only [Act.put, List.setIfInBounds_toArray, List.set_cons_zero, List.set_cons_succ]) | (refine' flow2_take (v := _) (o := _) rfl _ _ _; rotate_left; (focus rfl); (focus (intro wS hS; have hE := Ext.refl wS; (skip); go_simp; try (with_reducible (first | exact ⟨rfl, hS, hE⟩ | rfl)); done)); simp only [Act.put, List.setIfInBounds_toArray, List.set_cons_zero, List.set_cons_succ]))
        refine flow2_nil ?_
        intro wT hE hS
        have HT := Lib.hid (HO.out.below hS)
        clear hE hS
        go_wp2_with (first
            | (refine rw_load (α := Hd) rfl (.tmp 32) rfl b (off + k * 3) rfl l[k] (rangeAt_below HE.out.1 HE.out.2 HT.out.bl) ?_)
            | (refine rw_app1 (α := Hd) HT.out (by have := HLE.out; omega) (by decide) _ 34 (.tmp 29) (.tmp 33) rfl rfl rfl rfl rfl l[k] rfl rfl rfl ?_; intro v1 w1 h1; have H1 := Lib.hid h1; clear h1))
        go_roundw
        case rel => exact ⟨k + 1, true, out ++ [l[k]], by omega, by go_num, rfl, HP.out.next lH_lin hlt HNE.out, H1.out⟩
        case measure => simp [intOf]; omega
    · have hltI : ¬ (k : Int) < (l.length : Int) := by omega
      obtain rfl : k = l.length := by omega
      cases done with
      | false =>
        have HEN := Lib.hid (HP.out.endNo lH_lin)
        go_wp2_with (first
            | (refine rw_load (α := Hd) rfl (.tmp 3) rfl w.heap.size 0 rfl x (range_row ((HO.out.bl.block _ (heap_lt HX.out)).trans HX.out)) ?_)
            | (refine rw_app1 (α := Hd) HO.out (by have := HLE.out; omega) (by decide) _ 40 (.tmp 38) (.tmp 39) rfl rfl rfl rfl rfl x rfl rfl rfl ?_; intro v1 w1 h1; have H1 := Lib.hid h1; clear h1))
        go_ret
        exact ⟨_, rfl, HEN.out ▸ H1.out.rs.mono (Nat.zero_le _), HB.out.trans (H1.out.bl.mono HB.out.size)⟩
      | true =>
        have HEN := Lib.hid (HP.out.endYes)
        go_wp2_with fail
        go_ret
        exact ⟨_, rfl, HEN.out ▸ HO.out.rs.mono (Nat.zero_le _), HB.out.trans (HO.out.bl.mono HB.out.size)⟩
end Go.Proofs.YtokhnbdhcehonaaGreat
/- index: the document's putfile_any. -/
namespace Go.Proofs.YtokhnbdhcehonaaGreat
open Go Go.RowKit Row
set_option maxRecDepth 100000
set_option maxHeartbeats 16000000 in
theorem putfile_any {l : List Fl} {v : Value} {w : World} (h : Rs w 0 v l) (hlen : l.length ≤ 990) (hs : Srt kF lF l) (x : Fl) :
    Calls Tryz.prog 81 #[v, .agg (arr x)] w fun r w' => ∃ v', r = .returned v' ∧ Rs w' 0 v' (put kF lF l x) ∧ Below w.heap.size w w' := by
  obtain ⟨A, cap, hv, hlc, hcap⟩ := h.any
  subst hv
  obtain ⟨W, hW⟩ : ∃ W, W = w.alloc (.cells (arr x) 50) := ⟨_, rfl⟩
  have hb0 : Below w.heap.size w W := by rw [hW]; exact bel_box
  have HX : Hid (W.heap[w.heap.size]? = some (.cells (arr x) 50)) := Lib.hid (by rw [hW]; exact heap_alloc_new _ _)
  have HR := Lib.hid (h.below hb0)
  have HB := Lib.hid hb0
  have HS := Lib.hid hs
  have HW := Lib.hid hW
  have HL := Lib.hid hlen
  clear h hb0 hs hW
  have hm63 : maxLen = 9223372036854775807 := rfl
  go_enter Tryz.func81, Tryz.ntmps81
  go_wp2_with fail
  rw [← HW.out]
  go_loopw [5, 6, 7] (fun vo d i wq => ∃ (k : Nat) (done : Bool) (out : List Fl), k ≤ l.length ∧ i = .int .i64 k ∧ d = .bool done ∧ Pu kF lF l x k done out ∧ Ou W wq vo out) (fun _ _ i _ => l.length - (intOf i).toNat)
  case atStart => exact ⟨0, false, [], by omega, rfl, rfl, .start, .start W⟩
  case round =>
    obtain ⟨k, done, out, hk, rfl, rfl, hpu, hou⟩ := hrel
    have HP := Lib.hid hpu
    have HO := Lib.hid hou
    have HLE := Lib.hid (show out.length + 1 < 1000 by have := hpu.len lF_lin; omega)
    clear hpu hou
    by_cases hlt : k < l.length
    · have hltI : (k : Int) < (l.length : Int) := by omega
      obtain ⟨b, off, cap', he, _, _⟩ := HR.out.shape (by omega)
      cases he
      have HE := Lib.hid (And.intro (HR.out.range hlt) (show b < W.heap.size from HR.out.lt b rfl))
      have HC : Hid (∀ wS, Below W.heap.size W wS → wS.cell? ⟨b, off + k * 11, none⟩ = some (.string l[k].up) ∧ wS.cell? ⟨w.heap.size, 0, none⟩ = some (.string x.up)) := Lib.hid (fun wS hS => ⟨rangeAt_below HE.out.1 HE.out.2 hS 0 _ rfl, (by rw [row_cell ((hS.block _ (heap_lt HX.out)).trans HX.out)]; rfl)⟩)
      cases done with
      | false =>
        obtain ⟨q, hq⟩ : ∃ q, q = lF (kF l[k]) (kF x) := ⟨_, rfl⟩
        have HQ := Lib.hid hq
        clear hq
        have hq' : Op.bytesLess l[k].up.toList x.up.toList = q := HQ.out.symm
        cases q with
        | true =>
          go_wp2_with fail
          refine wp_region_flow2_lit [(0, false), (1, false), (2, false), (3, false), (4, false), (5, false), (6, false), (7, false), (8, false), (9, false), (10, false), (11, false)] (fun wS => Below wr.heap.size wr wS) (by kernel_rfl) (by kernel_rfl) (by kernel_rfl) (Below.refl _ _).drew ?_
          repeat (first | (refine' flow2_pass (o := _) rfl _ _; (focus rfl); simp only [Act.put, List.setIfInBounds_toArray, List.set_cons_zero, List.set_cons_succ]) | (refine' flow2_take (v := _) (o := _) rfl _ _ _; rotate_left; (focus rfl); (focus (intro wS hS; have hE := Ext.refl wS; (obtain ⟨d0, y0⟩ := HC.out wS (HO.out.below hS).bl); go_simp; try (with_reducible (first | exact ⟨rfl, hS, hE⟩ | rfl)); done)); simp only [Act.put, List.setIfInBounds_toArray, List.set_cons_zero, List.set_cons_succ]))
          refine flow2_nil ?_
          intro wT hE hS
          have HT := Lib.hid (HO.out.below hS)
          clear hE hS
          go_wp2_with fail
          by_cases hu0 : l[k].up = x.up
          · have e0 := (str_eq l[k].up x.up).trans (decide_eq_true hu0)
            exact absurd (show kF l[k] = kF x by simp [hu0]) (lF_lin.ne HQ.out.symm)
          · have e0 := (str_eq l[k].up x.up).trans (decide_eq_false hu0)
            have HN : Hid (kF l[k] ≠ kF x) := Lib.hid (by simp [hu0])
            clear hu0
            refine wp_region_flow2_lit [(0, false), (1, false), (2, false), (3, false), (4, false), (5, false), (6, false), (7, false)] (fun wS => Below wT.heap.size wT wS) (by kernel_rfl) (by kernel_rfl) (by kernel_rfl) (Below.refl _ _).drew ?_
            repeat (first | (refine' flow2_pass (o := _) rfl _ _; (focus rfl); simp only [Act.put, List.setIfInBounds_toArray, List.set_cons_zero, List.set_cons_succ]) | (refine' flow2_take (v := _) (o := _) rfl _ _ _; rotate_left; (focus rfl); (focus (intro wS hS; have hE := Ext.refl wS; (obtain ⟨d0, y0⟩ := HC.out wS (HT.out.below hS).bl); go_simp; try (with_reducible (first | exact ⟨rfl, hS, hE⟩ | rfl)); done)); simp only [Act.put, List.setIfInBounds_toArray, List.set_cons_zero, List.set_cons_succ]))
            refine flow2_nil ?_
            intro wU hE hS
            have HU := Lib.hid (HT.out.below hS)
            clear hE hS
            go_wp2_with (first
              | (refine rw_load (α := Fl) rfl (.tmp 41) rfl b (off + k * 11) rfl l[k] (rangeAt_below HE.out.1 HE.out.2 HU.out.bl) ?_)
              | (refine rw_app1 (α := Fl) HU.out (by have := HLE.out; omega) (by decide) _ 43 (.tmp 38) (.tmp 42) rfl rfl rfl rfl rfl l[k] rfl rfl rfl ?_; intro v5 w5 h5; have H5 := Lib.hid h5; clear h5))
            go_roundw
            case rel => exact ⟨k + 1, false, out ++ [l[k]], by omega, by go_num, rfl, HP.out.low hlt HQ.out.symm, H5.out⟩
            case measure => simp [intOf]; omega
        | false =>
          have HP1 := Lib.hid (HP.out.turn lF_lin HS.out hlt HQ.out.symm)
          go_wp2_with fail
          refine wp_region_flow2_lit [(0, false), (1, false), (2, false), (3, false), (4, false), (5, false), (6, false), (7, false), (8, false), (9, false), (10, false), (11, false)] (fun wS => Below wr.heap.size wr wS) (by kernel_rfl) (by kernel_rfl) (by kernel_rfl) (Below.refl _ _).drew ?_
          repeat (first | (refine' flow2_pass (o := _) rfl _ _; (focus rfl); simp only [Act.put, List.setIfInBounds_toArray, List.set_cons_zero, List.set_cons_succ]) | (refine' flow2_take (v := _) (o := _) rfl _ _ _; rotate_left; (focus rfl); (focus (intro wS hS; have hE := Ext.refl wS; (obtain ⟨d0, y0⟩ := HC.out wS (HO.out.below hS).bl); go_simp; try (with_reducible (first | exact ⟨rfl, hS, hE⟩ | rfl)); done)); simp only [Act.put, List.setIfInBounds_toArray, List.set_cons_zero, List.set_cons_succ]))
          refine flow2_nil ?_
          intro wT hE hS
          have HT := Lib.hid (HO.out.below hS)
          clear hE hS
          go_wp2_with (first
            | (refine rw_load (α := Fl) rfl (.tmp 3) rfl w.heap.size 0 rfl x (range_row ((HT.out.bl.block _ (heap_lt HX.out)).trans HX.out)) ?_)
            | (refine rw_app1 (α := Fl) HT.out (by have := HLE.out; omega) (by decide) _ 28 (.tmp 26) (.tmp 27) rfl rfl rfl rfl rfl x rfl rfl rfl ?_; intro v1 w1 h1; have H1 := Lib.hid h1; clear h1))
          by_cases hu0 : l[k].up = x.up
          · have e0 := (str_eq l[k].up x.up).trans (decide_eq_true hu0)
            have HN : Hid (kF l[k] = kF x) := Lib.hid (by simp [hu0])
            clear hu0
            refine wp_region_flow2_lit [(0, false), (1, false), (2, false), (3, false), (4, false), (5, false), (6, false), (7, false)] (fun wS => Below w1.heap.size w1 wS) (by kernel_rfl) (by kernel_rfl) (by kernel_rfl) (Below.refl _ _).drew ?_
            repeat (first | (refine' flow2_pass (o := _) rfl _ _; (focus rfl); simp only [Act.put, List.setIfInBounds_toArray, List.set_cons_zero, List.set_cons_succ]) | (refine' flow2_take (v := _) (o := _) rfl _ _ _; rotate_left; (focus rfl); (focus (intro wS hS; have hE := Ext.refl wS; (obtain ⟨d0, y0⟩ := HC.out wS (H1.out.below hS).bl); go_simp; try (with_reducible (first | exact ⟨rfl, hS, hE⟩ | rfl)); done)); simp only [Act.put, List.setIfInBounds_toArray, List.set_cons_zero, List.set_cons_succ]))
            refine flow2_nil ?_
            intro wU hE hS
            have HU := Lib.hid (H1.out.below hS)
            clear hE hS
            go_wp2_with fail
            go_roundw
            case rel => exact ⟨k + 1, true, (out ++ [x]), by omega, by go_num, rfl, HP1.out.skip lF_lin hlt HN.out, HU.out⟩
            case measure => simp [intOf]; omega
          · have e0 := (str_eq l[k].up x.up).trans (decide_eq_false hu0)
            have HN : Hid (kF l[k] ≠ kF x) := Lib.hid (by simp [hu0])
            clear hu0
            refine wp_region_flow2_lit [(0, false), (1, false), (2, false), (3, false), (4, false), (5, false), (6, false), (7, false)] (fun wS => Below w1.heap.size w1 wS) (by kernel_rfl) (by kernel_rfl) (by kernel_rfl) (Below.refl _ _).drew ?_
            repeat (first | (refine' flow2_pass (o := _) rfl _ _; (focus rfl); simp only [Act.put, List.setIfInBounds_toArray, List.set_cons_zero, List.set_cons_succ]) | (refine' flow2_take (v := _) (o := _) rfl _ _ _; rotate_left; (focus rfl); (focus (intro wS hS; have hE := Ext.refl wS; (obtain ⟨d0, y0⟩ := HC.out wS (H1.out.below hS).bl); go_simp; try (with_reducible (first | exact ⟨rfl, hS, hE⟩ | rfl)); done)); simp only [Act.put, List.setIfInBounds_toArray, List.set_cons_zero, List.set_cons_succ]))
            refine flow2_nil ?_
            intro wU hE hS
            have HU := Lib.hid (H1.out.below hS)
            clear hE hS
            go_wp2_with (first
              | (refine rw_load (α := Fl) rfl (.tmp 41) rfl b (off + k * 11) rfl l[k] (rangeAt_below HE.out.1 HE.out.2 HU.out.bl) ?_)
              | (refine rw_app1 (α := Fl) HU.out (by have := HLE.out; simp; omega) (by decide) _ 43 (.tmp 38) (.tmp 42) rfl rfl rfl rfl rfl l[k] rfl rfl rfl ?_; intro v5 w5 h5; have H5 := Lib.hid h5; clear h5))
            go_roundw
            case rel => exact ⟨k + 1, true, (out ++ [x]) ++ [l[k]], by omega, by go_num, rfl, HP1.out.next lF_lin hlt HN.out, H5.out⟩
            case measure => simp [intOf]; omega
      | true =>
        go_wp2_with fail
        refine wp_region_flow2_lit [(0, false), (1, false), (2, false), (3, false), (4, false), (5, false), (6, false), (7, false), (8, false), (9, false), (10, false), (11, false)] (fun wS => Below wr.heap.size wr wS) (by kernel_rfl) (by kernel_rfl) (by kernel_rfl) (Below.refl _ _).drew ?_
        repeat (first | (refine' flow2_pass (o := _) rfl _ _; (focus rfl); simp only [Act.put, List.setIfInBounds_toArray, List.set_cons_zero, List.set_cons_succ]) | (refine' flow2_take (v := _) (o := _) rfl _ _ _; rotate_left; (focus rfl); (focus (intro wS hS; have hE := Ext.refl wS; (skip); go_simp; try (with_reducible (first | exact ⟨rfl, hS, hE⟩ | rfl)); done)); simp only [Act.put, List.setIfInBounds_toArray, List.set_cons_zero, List.set_cons_succ]))
        refine flow2_nil ?_
        intro wT hE hS
        have HT := Lib.hid (HO.out.below hS)
        clear hE hS
        go_wp2_with fail
        by_cases hu0 : l[k].up = x.up
        · have e0 := (str_eq l[k].up x.up).trans (decide_eq_true hu0)
          have HN : Hid (kF l[k] = kF x) := Lib.hid (by simp [hu0])
          clear hu0
          refine wp_region_flow2_lit [(0, false), (1, false), (2, false), (3, false), (4, false), (5, false), (6, false), (7, false)] (fun wS => Below wT.heap.size wT wS) (by kernel_rfl) (by kernel_rfl) (by kernel_rfl) (Below.refl _ _).drew ?_
          repeat (first | (refine' flow2_pass (o := _) rfl _ _; (focus rfl); simp only [Act.put, List.setIfInBounds_toArray, List.set_cons_zero, List.set_cons_succ]) | (refine' flow2_take (v := _) (o := _) rfl _ _ _; rotate_left; (focus rfl); (focus (intro wS hS; have hE := Ext.refl wS; (obtain ⟨d0, y0⟩ := HC.out wS (HT.out.below hS).bl); go_simp; try (with_reducible (first | exact ⟨rfl, hS, hE⟩ | rfl)); done)); simp only [Act.put, List.setIfInBounds_toArray, List.set_cons_zero, List.set_cons_succ]))
          refine flow2_nil ?_
          intro wU hE hS
          have HU := Lib.hid (HT.out.below hS)
          clear hE hS
          go_wp2_with fail
          go_roundw
          case rel => exact ⟨k + 1, true, out, by omega, by go_num, rfl, HP.out.skip lF_lin hlt HN.out, HU.out⟩
          case measure => simp [intOf]; omega
        · have e0 := (str_eq l[k].up x.up).trans (decide_eq_false hu0)
          have HN : Hid (kF l[k] ≠ kF x) := Lib.hid (by simp [hu0])
          clear hu0
          refine wp_region_flow2_lit [(0, false), (1, false), (2, false), (3, false), (4, false), (5, false), (6, false), (7, false)] (fun wS => Below wT.heap.size wT wS) (by kernel_rfl) (by kernel_rfl) (by kernel_rfl) (Below.refl _ _).drew ?_
          repeat (first | (refine' flow2_pass (o := _) rfl _ _; (focus rfl); simp only [Act.put, List.setIfInBounds_toArray, List.set_cons_zero, List.set_cons_succ]) | (refine' flow2_take (v := _) (o := _) rfl _ _ _; rotate_left; (focus rfl); (focus (intro wS hS; have hE := Ext.refl wS; (obtain ⟨d0, y0⟩ := HC.out wS (HT.out.below hS).bl); go_simp; try (with_reducible (first | exact ⟨rfl, hS, hE⟩ | rfl)); done)); simp only [Act.put, List.setIfInBounds_toArray, List.set_cons_zero, List.set_cons_succ]))
          refine flow2_nil ?_
          intro wU hE hS
          have HU := Lib.hid (HT.out.below hS)
          clear hE hS
          go_wp2_with (first
            | (refine rw_load (α := Fl) rfl (.tmp 41) rfl b (off + k * 11) rfl l[k] (rangeAt_below HE.out.1 HE.out.2 HU.out.bl) ?_)
            | (refine rw_app1 (α := Fl) HU.out (by have := HLE.out; omega) (by decide) _ 43 (.tmp 38) (.tmp 42) rfl rfl rfl rfl rfl l[k] rfl rfl rfl ?_; intro v5 w5 h5; have H5 := Lib.hid h5; clear h5))
          go_roundw
          case rel => exact ⟨k + 1, true, out ++ [l[k]], by omega, by go_num, rfl, HP.out.next lF_lin hlt HN.out, H5.out⟩
          case measure => simp [intOf]; omega
    · have hltI : ¬ (k : Int) < (l.length : Int) := by omega
      obtain rfl : k = l.length := by omega
      cases done with
      | false =>
        have HEN := Lib.hid (HP.out.endNo lF_lin)
        go_wp2_with (first
            | (refine rw_load (α := Fl) rfl (.tmp 3) rfl w.heap.size 0 rfl x (range_row ((HO.out.bl.block _ (heap_lt HX.out)).trans HX.out)) ?_)
            | (refine rw_app1 (α := Fl) HO.out (by have := HLE.out; omega) (by decide) _ 49 (.tmp 47) (.tmp 48) rfl rfl rfl rfl rfl x rfl rfl rfl ?_; intro v1 w1 h1; have H1 := Lib.hid h1; clear h1))
        go_ret
        exact ⟨_, rfl, HEN.out ▸ H1.out.rs.mono (Nat.zero_le _), HB.out.trans (H1.out.bl.mono HB.out.size)⟩
      | true =>
        have HEN := Lib.hid (HP.out.endYes)
        go_wp2_with fail
        go_ret
        exact ⟨_, rfl, HEN.out ▸ HO.out.rs.mono (Nat.zero_le _), HB.out.trans (HO.out.bl.mono HB.out.size)⟩
end Go.Proofs.YtokhnbdhcehonaaGreat
/- index: the document's putname_any. -/
namespace Go.Proofs.YtokhnbdhcehonaaGreat
open Go Go.RowKit Row
set_option maxRecDepth 100000
set_option maxHeartbeats 16000000 in
theorem putname_any {l : List Nm} {v : Value} {w : World} (h : Rs w 0 v l) (hlen : l.length ≤ 990) (hs : Srt kN lN l) (x : Nm) :
    Calls Tryz.prog 82 #[v, .agg (arr x)] w fun r w' => ∃ v', r = .returned v' ∧ Rs w' 0 v' (put kN lN l x) ∧ Below w.heap.size w w' := by
  obtain ⟨A, cap, hv, hlc, hcap⟩ := h.any
  subst hv
  obtain ⟨W, hW⟩ : ∃ W, W = w.alloc (.cells (arr x) 54) := ⟨_, rfl⟩
  have hb0 : Below w.heap.size w W := by rw [hW]; exact bel_box
  have HX : Hid (W.heap[w.heap.size]? = some (.cells (arr x) 54)) := Lib.hid (by rw [hW]; exact heap_alloc_new _ _)
  have HR := Lib.hid (h.below hb0)
  have HB := Lib.hid hb0
  have HS := Lib.hid hs
  have HW := Lib.hid hW
  have HL := Lib.hid hlen
  clear h hb0 hs hW
  have hm63 : maxLen = 9223372036854775807 := rfl
  go_enter Tryz.func82, Tryz.ntmps82
  go_wp2_with fail
  rw [← HW.out]
  go_loopw [5, 6, 7] (fun vo d i wq => ∃ (k : Nat) (done : Bool) (out : List Nm), k ≤ l.length ∧ i = .int .i64 k ∧ d = .bool done ∧ Pu kN lN l x k done out ∧ Ou W wq vo out) (fun _ _ i _ => l.length - (intOf i).toNat)
  case atStart => exact ⟨0, false, [], by omega, rfl, rfl, .start, .start W⟩
  case round =>
    obtain ⟨k, done, out, hk, rfl, rfl, hpu, hou⟩ := hrel
    have HP := Lib.hid hpu
    have HO := Lib.hid hou
    have HLE := Lib.hid (show out.length + 1 < 1000 by have := hpu.len lN_lin; omega)
    clear hpu hou
    by_cases hlt : k < l.length
    · have hltI : (k : Int) < (l.length : Int) := by omega
      obtain ⟨b, off, cap', he, _, _⟩ := HR.out.shape (by omega)
      cases he
      have HE := Lib.hid (And.intro (HR.out.range hlt) (show b < W.heap.size from HR.out.lt b rfl))
      have HC : Hid (∀ wS, Below W.heap.size W wS → wS.cell? ⟨b, off + k * 3, none⟩ = some (.string l[k].dir) ∧ wS.cell? ⟨b, off + k * 3 + 1, none⟩ = some (.string l[k].name) ∧ wS.cell? ⟨w.heap.size, 0, none⟩ = some (.string x.dir) ∧ wS.cell? ⟨w.heap.size, 1, none⟩ = some (.string x.name)) := Lib.hid (fun wS hS => ⟨rangeAt_below HE.out.1 HE.out.2 hS 0 _ rfl, rangeAt_below HE.out.1 HE.out.2 hS 1 _ rfl, (by rw [row_cell ((hS.block _ (heap_lt HX.out)).trans HX.out)]; rfl), (by rw [row_cell ((hS.block _ (heap_lt HX.out)).trans HX.out)]; rfl)⟩)
      cases done with
      | false =>
        obtain ⟨q, hq⟩ : ∃ q, q = lN (kN l[k]) (kN x) := ⟨_, rfl⟩
        have HQ := Lib.hid hq
        clear hq
        go_wp2_with fail
        refine wp_region_flow2_lit [(0, false), (1, false), (2, false), (3, false), (4, false), (5, false), (6, false), (7, false), (8, false), (9, false), (10, false)] (fun wS => Below wr.heap.size wr wS) (by kernel_rfl) (by kernel_rfl) (by kernel_rfl) (Below.refl _ _).drew ?_
        repeat (first | (refine' flow2_pass (o := _) rfl _ _; (focus rfl); simp only [Act.put, List.setIfInBounds_toArray, List.set_cons_zero, List.set_cons_succ]) | (refine' flow2_take (v := _) (o := _) rfl _ _ _; rotate_left; (focus rfl); (focus (intro wS hS; have hE := Ext.refl wS; (skip); go_simp; try (with_reducible (first | exact ⟨rfl, hS, hE⟩ | rfl)); done)); simp only [Act.put, List.setIfInBounds_toArray, List.set_cons_zero, List.set_cons_succ]))
        (refine flow2_take (v := .agg (arr l[k])) (o := _) rfl rfl (fun wS hS => gives_row rfl rfl (rangeAt_below HE.out.1 HE.out.2 (HO.out.below hS).bl) ⟨hS, Ext.refl wS⟩) ?_; simp only [Act.put, List.setIfInBounds_toArray, List.set_cons_zero, List.set_cons_succ])
        (refine flow2_take (v := .agg (arr x)) (o := _) rfl rfl (fun wS hS => gives_row rfl rfl (range_row (((HO.out.below hS).bl.block _ (heap_lt HX.out)).trans HX.out)) ⟨hS, Ext.refl wS⟩) ?_; simp only [Act.put, List.setIfInBounds_toArray, List.set_cons_zero, List.set_cons_succ])
        (refine' flow2_take (v := _) (o := _) rfl _ _ _; rotate_left; (focus rfl); (focus (intro wS hS; go_simp; refine (lknown_any _ _ _).mono ?_; rintro e w' ⟨rfl, hb⟩; refine ⟨?_, hS.trans (hb.mono hS.size), hb⟩; rfl)); simp only [Act.put, List.setIfInBounds_toArray, List.set_cons_zero, List.set_cons_succ])
        repeat (first | (refine' flow2_pass (o := _) rfl _ _; (focus rfl); simp only [Act.put, List.setIfInBounds_toArray, List.set_cons_zero, List.set_cons_succ]) | (refine' flow2_take (v := _) (o := _) rfl _ _ _; rotate_left; (focus rfl); (focus (intro wS hS; have hE := Ext.refl wS; (skip); go_simp; try (with_reducible (first | exact ⟨rfl, hS, hE⟩ | rfl)); done)); simp only [Act.put, List.setIfInBounds_toArray, List.set_cons_zero, List.set_cons_succ]))
        refine flow2_nil ?_
        intro wT hE hS
        rw [← HQ.out]
        have HT := Lib.hid (HO.out.below hS)
        clear hE hS
        cases q with
        | true =>
          go_wp2_with fail
          by_cases hu0 : l[k].dir = x.dir
          · have e0 := (str_eq l[k].dir x.dir).trans (decide_eq_true hu0)
            by_cases hu1 : l[k].name = x.name
            · have e1 := (str_eq l[k].name x.name).trans (decide_eq_true hu1)
              exact absurd (show kN l[k] = kN x by simp [hu0, hu1]) (lN_lin.ne HQ.out.symm)
            · have e1 := (str_eq l[k].name x.name).trans (decide_eq_false hu1)
              have HN : Hid (kN l[k] ≠ kN x) := Lib.hid (by simp [hu1])
              clear hu0 hu1
              refine wp_region_flow2_lit [(0, false), (1, false), (2, false), (3, false), (4, false), (5, false), (6, false), (7, false), (8, false), (9, false), (10, false), (11, false), (12, false), (13, false), (14, false), (15, false), (16, false), (17, false)] (fun wS => Below wT.heap.size wT wS) (by kernel_rfl) (by kernel_rfl) (by kernel_rfl) (Below.refl _ _).drew ?_
              repeat (first | (refine' flow2_pass (o := _) rfl _ _; (focus rfl); simp only [Act.put, List.setIfInBounds_toArray, List.set_cons_zero, List.set_cons_succ]) | (refine' flow2_take (v := _) (o := _) rfl _ _ _; rotate_left; (focus rfl); (focus (intro wS hS; have hE := Ext.refl wS; (obtain ⟨d0, d1, y0, y1⟩ := HC.out wS (HT.out.below hS).bl); go_simp; try (with_reducible (first | exact ⟨rfl, hS, hE⟩ | rfl)); done)); simp only [Act.put, List.setIfInBounds_toArray, List.set_cons_zero, List.set_cons_succ]))
              refine flow2_nil ?_
              intro wU hE hS
              have HU := Lib.hid (HT.out.below hS)
              clear hE hS
              go_wp2_with (first
                | (refine rw_load (α := Nm) rfl (.tmp 50) rfl b (off + k * 3) rfl l[k] (rangeAt_below HE.out.1 HE.out.2 HU.out.bl) ?_)
                | (refine rw_app1 (α := Nm) HU.out (by have := HLE.out; omega) (by decide) _ 52 (.tmp 47) (.tmp 51) rfl rfl rfl rfl rfl l[k] rfl rfl rfl ?_; intro v5 w5 h5; have H5 := Lib.hid h5; clear h5))
              go_roundw
              case rel => exact ⟨k + 1, false, out ++ [l[k]], by omega, by go_num, rfl, HP.out.low hlt HQ.out.symm, H5.out⟩
              case measure => simp [intOf]; omega
          · have e0 := (str_eq l[k].dir x.dir).trans (decide_eq_false hu0)
            have HN : Hid (kN l[k] ≠ kN x) := Lib.hid (by simp [hu0])
            clear hu0
            refine wp_region_flow2_lit [(0, false), (1, false), (2, false), (3, false), (4, false), (5, false), (6, false), (7, false), (8, false), (9, false), (10, false), (11, false), (12, false), (13, false), (14, false), (15, false), (16, false), (17, false)] (fun wS => Below wT.heap.size wT wS) (by kernel_rfl) (by kernel_rfl) (by kernel_rfl) (Below.refl _ _).drew ?_
            repeat (first | (refine' flow2_pass (o := _) rfl _ _; (focus rfl); simp only [Act.put, List.setIfInBounds_toArray, List.set_cons_zero, List.set_cons_succ]) | (refine' flow2_take (v := _) (o := _) rfl _ _ _; rotate_left; (focus rfl); (focus (intro wS hS; have hE := Ext.refl wS; (obtain ⟨d0, d1, y0, y1⟩ := HC.out wS (HT.out.below hS).bl); go_simp; try (with_reducible (first | exact ⟨rfl, hS, hE⟩ | rfl)); done)); simp only [Act.put, List.setIfInBounds_toArray, List.set_cons_zero, List.set_cons_succ]))
            refine flow2_nil ?_
            intro wU hE hS
            have HU := Lib.hid (HT.out.below hS)
            clear hE hS
            go_wp2_with (first
              | (refine rw_load (α := Nm) rfl (.tmp 50) rfl b (off + k * 3) rfl l[k] (rangeAt_below HE.out.1 HE.out.2 HU.out.bl) ?_)
              | (refine rw_app1 (α := Nm) HU.out (by have := HLE.out; omega) (by decide) _ 52 (.tmp 47) (.tmp 51) rfl rfl rfl rfl rfl l[k] rfl rfl rfl ?_; intro v5 w5 h5; have H5 := Lib.hid h5; clear h5))
            go_roundw
            case rel => exact ⟨k + 1, false, out ++ [l[k]], by omega, by go_num, rfl, HP.out.low hlt HQ.out.symm, H5.out⟩
            case measure => simp [intOf]; omega
        | false =>
          have HP1 := Lib.hid (HP.out.turn lN_lin HS.out hlt HQ.out.symm)
          go_wp2_with (first
            | (refine rw_load (α := Nm) rfl (.tmp 3) rfl w.heap.size 0 rfl x (range_row ((HT.out.bl.block _ (heap_lt HX.out)).trans HX.out)) ?_)
            | (refine rw_app1 (α := Nm) HT.out (by have := HLE.out; omega) (by decide) _ 27 (.tmp 25) (.tmp 26) rfl rfl rfl rfl rfl x rfl rfl rfl ?_; intro v1 w1 h1; have H1 := Lib.hid h1; clear h1))
          by_cases hu0 : l[k].dir = x.dir
          · have e0 := (str_eq l[k].dir x.dir).trans (decide_eq_true hu0)
            by_cases hu1 : l[k].name = x.name
            · have e1 := (str_eq l[k].name x.name).trans (decide_eq_true hu1)
              have HN : Hid (kN l[k] = kN x) := Lib.hid (by simp [hu0, hu1])
              clear hu0 hu1
              refine wp_region_flow2_lit [(0, false), (1, false), (2, false), (3, false), (4, false), (5, false), (6, false), (7, false), (8, false), (9, false), (10, false), (11, false), (12, false), (13, false), (14, false), (15, false), (16, false), (17, false)] (fun wS => Below w1.heap.size w1 wS) (by kernel_rfl) (by kernel_rfl) (by kernel_rfl) (Below.refl _ _).drew ?_
              repeat (first | (refine' flow2_pass (o := _) rfl _ _; (focus rfl); simp only [Act.put, List.setIfInBounds_toArray, List.set_cons_zero, List.set_cons_succ]) | (refine' flow2_take (v := _) (o := _) rfl _ _ _; rotate_left; (focus rfl); (focus (intro wS hS; have hE := Ext.refl wS; (obtain ⟨d0, d1, y0, y1⟩ := HC.out wS (H1.out.below hS).bl); go_simp; try (with_reducible (first | exact ⟨rfl, hS, hE⟩ | rfl)); done)); simp only [Act.put, List.setIfInBounds_toArray, List.set_cons_zero, List.set_cons_succ]))
              refine flow2_nil ?_
              intro wU hE hS
              have HU := Lib.hid (H1.out.below hS)
              clear hE hS
              go_wp2_with fail
              go_roundw
              case rel => exact ⟨k + 1, true, (out ++ [x]), by omega, by go_num, rfl, HP1.out.skip lN_lin hlt HN.out, HU.out⟩
              case measure => simp [intOf]; omega
            · have e1 := (str_eq l[k].name x.name).trans (decide_eq_false hu1)
              have HN : Hid (kN l[k] ≠ kN x) := Lib.hid (by simp [hu1])
              clear hu0 hu1
              refine wp_region_flow2_lit [(0, false), (1, false), (2, false), (3, false), (4, false), (5, false), (6, false), (7, false), (8, false), (9, false), (10, false), (11, false), (12, false), (13, false), (14, false), (15, false), (16, false), (17, false)] (fun wS => Below w1.heap.size w1 wS) (by kernel_rfl) (by kernel_rfl) (by kernel_rfl) (Below.refl _ _).drew ?_
              repeat (first | (refine' flow2_pass (o := _) rfl _ _; (focus rfl); simp only [Act.put, List.setIfInBounds_toArray, List.set_cons_zero, List.set_cons_succ]) | (refine' flow2_take (v := _) (o := _) rfl _ _ _; rotate_left; (focus rfl); (focus (intro wS hS; have hE := Ext.refl wS; (obtain ⟨d0, d1, y0, y1⟩ := HC.out wS (H1.out.below hS).bl); go_simp; try (with_reducible (first | exact ⟨rfl, hS, hE⟩ | rfl)); done)); simp only [Act.put, List.setIfInBounds_toArray, List.set_cons_zero, List.set_cons_succ]))
              refine flow2_nil ?_
              intro wU hE hS
              have HU := Lib.hid (H1.out.below hS)
              clear hE hS
              go_wp2_with (first
                | (refine rw_load (α := Nm) rfl (.tmp 50) rfl b (off + k * 3) rfl l[k] (rangeAt_below HE.out.1 HE.out.2 HU.out.bl) ?_)
                | (refine rw_app1 (α := Nm) HU.out (by have := HLE.out; simp; omega) (by decide) _ 52 (.tmp 47) (.tmp 51) rfl rfl rfl rfl rfl l[k] rfl rfl rfl ?_; intro v5 w5 h5; have H5 := Lib.hid h5; clear h5))
              go_roundw
              case rel => exact ⟨k + 1, true, (out ++ [x]) ++ [l[k]], by omega, by go_num, rfl, HP1.out.next lN_lin hlt HN.out, H5.out⟩
              case measure => simp [intOf]; omega
          · have e0 := (str_eq l[k].dir x.dir).trans (decide_eq_false hu0)
            have HN : Hid (kN l[k] ≠ kN x) := Lib.hid (by simp [hu0])
            clear hu0
            refine wp_region_flow2_lit [(0, false), (1, false), (2, false), (3, false), (4, false), (5, false), (6, false), (7, false), (8, false), (9, false), (10, false), (11, false), (12, false), (13, false), (14, false), (15, false), (16, false), (17, false)] (fun wS => Below w1.heap.size w1 wS) (by kernel_rfl) (by kernel_rfl) (by kernel_rfl) (Below.refl _ _).drew ?_
            repeat (first | (refine' flow2_pass (o := _) rfl _ _; (focus rfl); simp only [Act.put, List.setIfInBounds_toArray, List.set_cons_zero, List.set_cons_succ]) | (refine' flow2_take (v := _) (o := _) rfl _ _ _; rotate_left; (focus rfl); (focus (intro wS hS; have hE := Ext.refl wS; (obtain ⟨d0, d1, y0, y1⟩ := HC.out wS (H1.out.below hS).bl); go_simp; try (with_reducible (first | exact ⟨rfl, hS, hE⟩ | rfl)); done)); simp only [Act.put, List.setIfInBounds_toArray, List.set_cons_zero, List.set_cons_succ]))
            refine flow2_nil ?_
            intro wU hE hS
            have HU := Lib.hid (H1.out.below hS)
            clear hE hS
            go_wp2_with (first
              | (refine rw_load (α := Nm) rfl (.tmp 50) rfl b (off + k * 3) rfl l[k] (rangeAt_below HE.out.1 HE.out.2 HU.out.bl) ?_)
              | (refine rw_app1 (α := Nm) HU.out (by have := HLE.out; simp; omega) (by decide) _ 52 (.tmp 47) (.tmp 51) rfl rfl rfl rfl rfl l[k] rfl rfl rfl ?_; intro v5 w5 h5; have H5 := Lib.hid h5; clear h5))
            go_roundw
            case rel => exact ⟨k + 1, true, (out ++ [x]) ++ [l[k]], by omega, by go_num, rfl, HP1.out.next lN_lin hlt HN.out, H5.out⟩
            case measure => simp [intOf]; omega
      | true =>
        go_wp2_with fail
        refine wp_region_flow2_lit [(0, false), (1, false), (2, false), (3, false), (4, false), (5, false), (6, false), (7, false), (8, false), (9, false), (10, false)] (fun wS => Below wr.heap.size wr wS) (by kernel_rfl) (by kernel_rfl) (by kernel_rfl) (Below.refl _ _).drew ?_
        repeat (first | (refine' flow2_pass (o := _) rfl _ _; (focus rfl); simp only [Act.put, List.setIfInBounds_toArray, List.set_cons_zero, List.set_cons_succ]) | (refine' flow2_take (v := _) (o := _) rfl _ _ _; rotate_left; (focus rfl); (focus (intro wS hS; have hE := Ext.refl wS; (skip); go_simp; try (with_reducible (first | exact ⟨rfl, hS, hE⟩ | rfl)); done)); simp only [Act.put, List.setIfInBounds_toArray, List.set_cons_zero, List.set_cons_succ]))
        refine flow2_nil ?_
        intro wT hE hS
        have HT := Lib.hid (HO.out.below hS)
        clear hE hS
        go_wp2_with fail
        by_cases hu0 : l[k].dir = x.dir
        · have e0 := (str_eq l[k].dir x.dir).trans (decide_eq_true hu0)
          by_cases hu1 : l[k].name = x.name
          · have e1 := (str_eq l[k].name x.name).trans (decide_eq_true hu1)
            have HN : Hid (kN l[k] = kN x) := Lib.hid (by simp [hu0, hu1])
            clear hu0 hu1
            refine wp_region_flow2_lit [(0, false), (1, false), (2, false), (3, false), (4, false), (5, false), (6, false), (7, false), (8, false), (9, false), (10, false), (11, false), (12, false), (13, false), (14, false), (15, false), (16, false), (17, false)] (fun wS => Below wT.heap.size wT wS) (by kernel_rfl) (by kernel_rfl) (by kernel_rfl) (Below.refl _ _).drew ?_
            repeat (first | (refine' flow2_pass (o := _) rfl _ _; (focus rfl); simp only [Act.put, List.setIfInBounds_toArray, List.set_cons_zero, List.set_cons_succ]) | (refine' flow2_take (v := _) (o := _) rfl _ _ _; rotate_left; (focus rfl); (focus (intro wS hS; have hE := Ext.refl wS; (obtain ⟨d0, d1, y0, y1⟩ := HC.out wS (HT.out.below hS).bl); go_simp; try (with_reducible (first | exact ⟨rfl, hS, hE⟩ | rfl)); done)); simp only [Act.put, List.setIfInBounds_toArray, List.set_cons_zero, List.set_cons_succ]))
            refine flow2_nil ?_
            intro wU hE hS
            have HU := Lib.hid (HT.out.below hS)
            clear hE hS
            go_wp2_with fail
            go_roundw
            case rel => exact ⟨k + 1, true, out, by omega, by go_num, rfl, HP.out.skip lN_lin hlt HN.out, HU.out⟩
            case measure => simp [intOf]; omega
          · have e1 := (str_eq l[k].name x.name).trans (decide_eq_false hu1)
            have HN : Hid (kN l[k] ≠ kN x) := Lib.hid (by simp [hu1])
            clear hu0 hu1
            refine wp_region_flow2_lit [(0, false), (1, false), (2, false), (3, false), (4, false), (5, false), (6, false), (7, false), (8, false), (9, false), (10, false), (11, false), (12, false), (13, false), (14, false), (15, false), (16, false), (17, false)] (fun wS => Below wT.heap.size wT wS) (by kernel_rfl) (by kernel_rfl) (by kernel_rfl) (Below.refl _ _).drew ?_
            repeat (first | (refine' flow2_pass (o := _) rfl _ _; (focus rfl); simp only [Act.put, List.setIfInBounds_toArray, List.set_cons_zero, List.set_cons_succ]) | (refine' flow2_take (v := _) (o := _) rfl _ _ _; rotate_left; (focus rfl); (focus (intro wS hS; have hE := Ext.refl wS; (obtain ⟨d0, d1, y0, y1⟩ := HC.out wS (HT.out.below hS).bl); go_simp; try (with_reducible (first | exact ⟨rfl, hS, hE⟩ | rfl)); done)); simp only [Act.put, List.setIfInBounds_toArray, List.set_cons_zero, List.set_cons_succ]))
            refine flow2_nil ?_
            intro wU hE hS
            have HU := Lib.hid (HT.out.below hS)
            clear hE hS
            go_wp2_with (first
              | (refine rw_load (α := Nm) rfl (.tmp 50) rfl b (off + k * 3) rfl l[k] (rangeAt_below HE.out.1 HE.out.2 HU.out.bl) ?_)
              | (refine rw_app1 (α := Nm) HU.out (by have := HLE.out; omega) (by decide) _ 52 (.tmp 47) (.tmp 51) rfl rfl rfl rfl rfl l[k] rfl rfl rfl ?_; intro v5 w5 h5; have H5 := Lib.hid h5; clear h5))
            go_roundw
            case rel => exact ⟨k + 1, true, out ++ [l[k]], by omega, by go_num, rfl, HP.out.next lN_lin hlt HN.out, H5.out⟩
            case measure => simp [intOf]; omega
        · have e0 := (str_eq l[k].dir x.dir).trans (decide_eq_false hu0)
          have HN : Hid (kN l[k] ≠ kN x) := Lib.hid (by simp [hu0])
          clear hu0
          refine wp_region_flow2_lit [(0, false), (1, false), (2, false), (3, false), (4, false), (5, false), (6, false), (7, false), (8, false), (9, false), (10, false), (11, false), (12, false), (13, false), (14, false), (15, false), (16, false), (17, false)] (fun wS => Below wT.heap.size wT wS) (by kernel_rfl) (by kernel_rfl) (by kernel_rfl) (Below.refl _ _).drew ?_
          repeat (first | (refine' flow2_pass (o := _) rfl _ _; (focus rfl); simp only [Act.put, List.setIfInBounds_toArray, List.set_cons_zero, List.set_cons_succ]) | (refine' flow2_take (v := _) (o := _) rfl _ _ _; rotate_left; (focus rfl); (focus (intro wS hS; have hE := Ext.refl wS; (obtain ⟨d0, d1, y0, y1⟩ := HC.out wS (HT.out.below hS).bl); go_simp; try (with_reducible (first | exact ⟨rfl, hS, hE⟩ | rfl)); done)); simp only [Act.put, List.setIfInBounds_toArray, List.set_cons_zero, List.set_cons_succ]))
          refine flow2_nil ?_
          intro wU hE hS
          have HU := Lib.hid (HT.out.below hS)
          clear hE hS
          go_wp2_with (first
            | (refine rw_load (α := Nm) rfl (.tmp 50) rfl b (off + k * 3) rfl l[k] (rangeAt_below HE.out.1 HE.out.2 HU.out.bl) ?_)
            | (refine rw_app1 (α := Nm) HU.out (by have := HLE.out; omega) (by decide) _ 52 (.tmp 47) (.tmp 51) rfl rfl rfl rfl rfl l[k] rfl rfl rfl ?_; intro v5 w5 h5; have H5 := Lib.hid h5; clear h5))
          go_roundw
          case rel => exact ⟨k + 1, true, out ++ [l[k]], by omega, by go_num, rfl, HP.out.next lN_lin hlt HN.out, H5.out⟩
          case measure => simp [intOf]; omega
    · have hltI : ¬ (k : Int) < (l.length : Int) := by omega
      obtain rfl : k = l.length := by omega
      cases done with
      | false =>
        have HEN := Lib.hid (HP.out.endNo lN_lin)
        go_wp2_with (first
            | (refine rw_load (α := Nm) rfl (.tmp 3) rfl w.heap.size 0 rfl x (range_row ((HO.out.bl.block _ (heap_lt HX.out)).trans HX.out)) ?_)
            | (refine rw_app1 (α := Nm) HO.out (by have := HLE.out; omega) (by decide) _ 58 (.tmp 56) (.tmp 57) rfl rfl rfl rfl rfl x rfl rfl rfl ?_; intro v1 w1 h1; have H1 := Lib.hid h1; clear h1))
        go_ret
        exact ⟨_, rfl, HEN.out ▸ H1.out.rs.mono (Nat.zero_le _), HB.out.trans (H1.out.bl.mono HB.out.size)⟩
      | true =>
        have HEN := Lib.hid (HP.out.endYes)
        go_wp2_with fail
        go_ret
        exact ⟨_, rfl, HEN.out ▸ HO.out.rs.mono (Nat.zero_le _), HB.out.trans (HO.out.bl.mono HB.out.size)⟩
end Go.Proofs.YtokhnbdhcehonaaGreat
/- index: the document's putblock_any. -/
namespace Go.Proofs.YtokhnbdhcehonaaGreat
open Go Go.RowKit Row
set_option maxRecDepth 100000
set_option maxHeartbeats 16000000 in
theorem putblock_any {l : List Bl} {v : Value} {w : World} (h : Rs w 0 v l) (hlen : l.length ≤ 990) (hs : Srt kB lB l) (x : Bl) :
    Calls Tryz.prog 84 #[v, .agg (arr x)] w fun r w' => ∃ v', r = .returned v' ∧ Rs w' 0 v' (put kB lB l x) ∧ Below w.heap.size w w' := by
  obtain ⟨A, cap, hv, hlc, hcap⟩ := h.any
  subst hv
  obtain ⟨W, hW⟩ : ∃ W, W = w.alloc (.cells (arr x) 59) := ⟨_, rfl⟩
  have hb0 : Below w.heap.size w W := by rw [hW]; exact bel_box
  have HX : Hid (W.heap[w.heap.size]? = some (.cells (arr x) 59)) := Lib.hid (by rw [hW]; exact heap_alloc_new _ _)
  have HR := Lib.hid (h.below hb0)
  have HB := Lib.hid hb0
  have HS := Lib.hid hs
  have HW := Lib.hid hW
  have HL := Lib.hid hlen
  clear h hb0 hs hW
  have hm63 : maxLen = 9223372036854775807 := rfl
  go_enter Tryz.func84, Tryz.ntmps84
  go_wp2_with fail
  rw [← HW.out]
  go_loopw [5, 6, 7] (fun vo d i wq => ∃ (k : Nat) (done : Bool) (out : List Bl), k ≤ l.length ∧ i = .int .i64 k ∧ d = .bool done ∧ Pu kB lB l x k done out ∧ Ou W wq vo out) (fun _ _ i _ => l.length - (intOf i).toNat)
  case atStart => exact ⟨0, false, [], by omega, rfl, rfl, .start, .start W⟩
  case round =>
    obtain ⟨k, done, out, hk, rfl, rfl, hpu, hou⟩ := hrel
    have HP := Lib.hid hpu
    have HO := Lib.hid hou
    have HLE := Lib.hid (show out.length + 1 < 1000 by have := hpu.len lB_lin; omega)
    clear hpu hou
    by_cases hlt : k < l.length
    · have hltI : (k : Int) < (l.length : Int) := by omega
      obtain ⟨b, off, cap', he, _, _⟩ := HR.out.shape (by omega)
      cases he
      have HE := Lib.hid (And.intro (HR.out.range hlt) (show b < W.heap.size from HR.out.lt b rfl))
      have HC : Hid (∀ wS, Below W.heap.size W wS → wS.cell? ⟨b, off + k * 3, none⟩ = some (.string l[k].up) ∧ wS.cell? ⟨b, off + k * 3 + 1, none⟩ = some (.int .i64 l[k].no) ∧ wS.cell? ⟨w.heap.size, 0, none⟩ = some (.string x.up) ∧ wS.cell? ⟨w.heap.size, 1, none⟩ = some (.int .i64 x.no)) := Lib.hid (fun wS hS => ⟨rangeAt_below HE.out.1 HE.out.2 hS 0 _ rfl, rangeAt_below HE.out.1 HE.out.2 hS 1 _ rfl, (by rw [row_cell ((hS.block _ (heap_lt HX.out)).trans HX.out)]; rfl), (by rw [row_cell ((hS.block _ (heap_lt HX.out)).trans HX.out)]; rfl)⟩)
      cases done with
      | false =>
        obtain ⟨q, hq⟩ : ∃ q, q = lB (kB l[k]) (kB x) := ⟨_, rfl⟩
        have HQ := Lib.hid hq
        clear hq
        go_wp2_with fail
        refine wp_region_flow2_lit [(0, false), (1, false), (2, false), (3, false), (4, false), (5, false), (6, false), (7, false), (8, false), (9, false), (10, false)] (fun wS => Below wr.heap.size wr wS) (by kernel_rfl) (by kernel_rfl) (by kernel_rfl) (Below.refl _ _).drew ?_
        repeat (first | (refine' flow2_pass (o := _) rfl _ _; (focus rfl); simp only [Act.put, List.setIfInBounds_toArray, List.set_cons_zero, List.set_cons_succ]) | (refine' flow2_take (v := _) (o := _) rfl _ _ _; rotate_left; (focus rfl); (focus (intro wS hS; have hE := Ext.refl wS; (skip); go_simp; try (with_reducible (first | exact ⟨rfl, hS, hE⟩ | rfl)); done)); simp only [Act.put, List.setIfInBounds_toArray, List.set_cons_zero, List.set_cons_succ]))
        (refine flow2_take (v := .agg (arr l[k])) (o := _) rfl rfl (fun wS hS => gives_row rfl rfl (rangeAt_below HE.out.1 HE.out.2 (HO.out.below hS).bl) ⟨hS, Ext.refl wS⟩) ?_; simp only [Act.put, List.setIfInBounds_toArray, List.set_cons_zero, List.set_cons_succ])
        (refine flow2_take (v := .agg (arr x)) (o := _) rfl rfl (fun wS hS => gives_row rfl rfl (range_row (((HO.out.below hS).bl.block _ (heap_lt HX.out)).trans HX.out)) ⟨hS, Ext.refl wS⟩) ?_; simp only [Act.put, List.setIfInBounds_toArray, List.set_cons_zero, List.set_cons_succ])
        (refine' flow2_take (v := _) (o := _) rfl _ _ _; rotate_left; (focus rfl); (focus (intro wS hS; go_simp; refine (lplaced_any _ _ _).mono ?_; rintro e w' ⟨rfl, hb⟩; refine ⟨?_, hS.trans (hb.mono hS.size), hb⟩; rfl)); simp only [Act.put, List.setIfInBounds_toArray, List.set_cons_zero, List.set_cons_succ])
        repeat (first | (refine' flow2_pass (o := _) rfl _ _; (focus rfl); simp only [Act.put, List.setIfInBounds_toArray, List.set_cons_zero, List.set_cons_succ]) | (refine' flow2_take (v := _) (o := _) rfl _ _ _; rotate_left; (focus rfl); (focus (intro wS hS; have hE := Ext.refl wS; (skip); go_simp; try (with_reducible (first | exact ⟨rfl, hS, hE⟩ | rfl)); done)); simp only [Act.put, List.setIfInBounds_toArray, List.set_cons_zero, List.set_cons_succ]))
        refine flow2_nil ?_
        intro wT hE hS
        rw [← HQ.out]
        have HT := Lib.hid (HO.out.below hS)
        clear hE hS
        cases q with
        | true =>
          go_wp2_with fail
          by_cases hu0 : l[k].up = x.up
          · have e0 := (str_eq l[k].up x.up).trans (decide_eq_true hu0)
            by_cases hu1 : l[k].no = x.no
            · have e1 : (l[k].no == x.no) = true := by simp [hu1]
              exact absurd (show kB l[k] = kB x by simp [hu0, hu1]) (lB_lin.ne HQ.out.symm)
            · have e1 : (l[k].no == x.no) = false := by simp [hu1]
              have HN : Hid (kB l[k] ≠ kB x) := Lib.hid (by simp [hu1])
              clear hu0 hu1
              refine wp_region_flow2_lit [(0, false), (1, false), (2, false), (3, false), (4, false), (5, false), (6, false), (7, false), (8, false), (9, false), (10, false), (11, false), (12, false), (13, false), (14, false), (15, false), (16, false), (17, false)] (fun wS => Below wT.heap.size wT wS) (by kernel_rfl) (by kernel_rfl) (by kernel_rfl) (Below.refl _ _).drew ?_
              repeat (first | (refine' flow2_pass (o := _) rfl _ _; (focus rfl); simp only [Act.put, List.setIfInBounds_toArray, List.set_cons_zero, List.set_cons_succ]) | (refine' flow2_take (v := _) (o := _) rfl _ _ _; rotate_left; (focus rfl); (focus (intro wS hS; have hE := Ext.refl wS; (obtain ⟨d0, d1, y0, y1⟩ := HC.out wS (HT.out.below hS).bl); go_simp; try (with_reducible (first | exact ⟨rfl, hS, hE⟩ | rfl)); done)); simp only [Act.put, List.setIfInBounds_toArray, List.set_cons_zero, List.set_cons_succ]))
              refine flow2_nil ?_
              intro wU hE hS
              have HU := Lib.hid (HT.out.below hS)
              clear hE hS
              go_wp2_with (first
                | (refine rw_load (α := Bl) rfl (.tmp 50) rfl b (off + k * 3) rfl l[k] (rangeAt_below HE.out.1 HE.out.2 HU.out.bl) ?_)
                | (refine rw_app1 (α := Bl) HU.out (by have := HLE.out; omega) (by decide) _ 52 (.tmp 47) (.tmp 51) rfl rfl rfl rfl rfl l[k] rfl rfl rfl ?_; intro v5 w5 h5; have H5 := Lib.hid h5; clear h5))
              go_roundw
              case rel => exact ⟨k + 1, false, out ++ [l[k]], by omega, by go_num, rfl, HP.out.low hlt HQ.out.symm, H5.out⟩
              case measure => simp [intOf]; omega
          · have e0 := (str_eq l[k].up x.up).trans (decide_eq_false hu0)
            have HN : Hid (kB l[k] ≠ kB x) := Lib.hid (by simp [hu0])
            clear hu0
            refine wp_region_flow2_lit [(0, false), (1, false), (2, false), (3, false), (4, false), (5, false), (6, false), (7, false), (8, false), (9, false), (10, false), (11, false), (12, false), (13, false), (14, false), (15, false), (16, false), (17, false)] (fun wS => Below wT.heap.size wT wS) (by kernel_rfl) (by kernel_rfl) (by kernel_rfl) (Below.refl _ _).drew ?_
            repeat (first | (refine' flow2_pass (o := _) rfl _ _; (focus rfl); simp only [Act.put, List.setIfInBounds_toArray, List.set_cons_zero, List.set_cons_succ]) | (refine' flow2_take (v := _) (o := _) rfl _ _ _; rotate_left; (focus rfl); (focus (intro wS hS; have hE := Ext.refl wS; (obtain ⟨d0, d1, y0, y1⟩ := HC.out wS (HT.out.below hS).bl); go_simp; try (with_reducible (first | exact ⟨rfl, hS, hE⟩ | rfl)); done)); simp only [Act.put, List.setIfInBounds_toArray, List.set_cons_zero, List.set_cons_succ]))
            refine flow2_nil ?_
            intro wU hE hS
            have HU := Lib.hid (HT.out.below hS)
            clear hE hS
            go_wp2_with (first
              | (refine rw_load (α := Bl) rfl (.tmp 50) rfl b (off + k * 3) rfl l[k] (rangeAt_below HE.out.1 HE.out.2 HU.out.bl) ?_)
              | (refine rw_app1 (α := Bl) HU.out (by have := HLE.out; omega) (by decide) _ 52 (.tmp 47) (.tmp 51) rfl rfl rfl rfl rfl l[k] rfl rfl rfl ?_; intro v5 w5 h5; have H5 := Lib.hid h5; clear h5))
            go_roundw
            case rel => exact ⟨k + 1, false, out ++ [l[k]], by omega, by go_num, rfl, HP.out.low hlt HQ.out.symm, H5.out⟩
            case measure => simp [intOf]; omega
        | false =>
          have HP1 := Lib.hid (HP.out.turn lB_lin HS.out hlt HQ.out.symm)
          go_wp2_with (first
            | (refine rw_load (α := Bl) rfl (.tmp 3) rfl w.heap.size 0 rfl x (range_row ((HT.out.bl.block _ (heap_lt HX.out)).trans HX.out)) ?_)
            | (refine rw_app1 (α := Bl) HT.out (by have := HLE.out; omega) (by decide) _ 27 (.tmp 25) (.tmp 26) rfl rfl rfl rfl rfl x rfl rfl rfl ?_; intro v1 w1 h1; have H1 := Lib.hid h1; clear h1))
          by_cases hu0 : l[k].up = x.up
          · have e0 := (str_eq l[k].up x.up).trans (decide_eq_true hu0)
            by_cases hu1 : l[k].no = x.no
            · have e1 : (l[k].no == x.no) = true := by simp [hu1]
              have HN : Hid (kB l[k] = kB x) := Lib.hid (by simp [hu0, hu1])
              clear hu0 hu1
              refine wp_region_flow2_lit [(0, false), (1, false), (2, false), (3, false), (4, false), (5, false), (6, false), (7, false), (8, false), (9, false), (10, false), (11, false), (12, false), (13, false), (14, false), (15, false), (16, false), (17, false)] (fun wS => Below w1.heap.size w1 wS) (by kernel_rfl) (by kernel_rfl) (by kernel_rfl) (Below.refl _ _).drew ?_
              repeat (first | (refine' flow2_pass (o := _) rfl _ _; (focus rfl); simp only [Act.put, List.setIfInBounds_toArray, List.set_cons_zero, List.set_cons_succ]) | (refine' flow2_take (v := _) (o := _) rfl _ _ _; rotate_left; (focus rfl); (focus (intro wS hS; have hE := Ext.refl wS; (obtain ⟨d0, d1, y0, y1⟩ := HC.out wS (H1.out.below hS).bl); go_simp; try (with_reducible (first | exact ⟨rfl, hS, hE⟩ | rfl)); done)); simp only [Act.put, List.setIfInBounds_toArray, List.set_cons_zero, List.set_cons_succ]))
              refine flow2_nil ?_
              intro wU hE hS
              have HU := Lib.hid (H1.out.below hS)
              clear hE hS
              go_wp2_with fail
              go_roundw
              case rel => exact ⟨k + 1, true, (out ++ [x]), by omega, by go_num, rfl, HP1.out.skip lB_lin hlt HN.out, HU.out⟩
              case measure => simp [intOf]; omega
            · have e1 : (l[k].no == x.no) = false := by simp [hu1]
              have HN : Hid (kB l[k] ≠ kB x) := Lib.hid (by simp [hu1])
              clear hu0 hu1
              refine wp_region_flow2_lit [(0, false), (1, false), (2, false), (3, false), (4, false), (5, false), (6, false), (7, false), (8, false), (9, false), (10, false), (11, false), (12, false), (13, false), (14, false), (15, false), (16, false), (17, false)] (fun wS => Below w1.heap.size w1 wS) (by kernel_rfl) (by kernel_rfl) (by kernel_rfl) (Below.refl _ _).drew ?_
              repeat (first | (refine' flow2_pass (o := _) rfl _ _; (focus rfl); simp only [Act.put, List.setIfInBounds_toArray, List.set_cons_zero, List.set_cons_succ]) | (refine' flow2_take (v := _) (o := _) rfl _ _ _; rotate_left; (focus rfl); (focus (intro wS hS; have hE := Ext.refl wS; (obtain ⟨d0, d1, y0, y1⟩ := HC.out wS (H1.out.below hS).bl); go_simp; try (with_reducible (first | exact ⟨rfl, hS, hE⟩ | rfl)); done)); simp only [Act.put, List.setIfInBounds_toArray, List.set_cons_zero, List.set_cons_succ]))
              refine flow2_nil ?_
              intro wU hE hS
              have HU := Lib.hid (H1.out.below hS)
              clear hE hS
              go_wp2_with (first
                | (refine rw_load (α := Bl) rfl (.tmp 50) rfl b (off + k * 3) rfl l[k] (rangeAt_below HE.out.1 HE.out.2 HU.out.bl) ?_)
                | (refine rw_app1 (α := Bl) HU.out (by have := HLE.out; simp; omega) (by decide) _ 52 (.tmp 47) (.tmp 51) rfl rfl rfl rfl rfl l[k] rfl rfl rfl ?_; intro v5 w5 h5; have H5 := Lib.hid h5; clear h5))
              go_roundw
              case rel => exact ⟨k + 1, true, (out ++ [x]) ++ [l[k]], by omega, by go_num, rfl, HP1.out.next lB_lin hlt HN.out, H5.out⟩
              case measure => simp [intOf]; omega
          · have e0 := (str_eq l[k].up x.up).trans (decide_eq_false hu0)
            have HN : Hid (kB l[k] ≠ kB x) := Lib.hid (by simp [hu0])
            clear hu0
            refine wp_region_flow2_lit [(0, false), (1, false), (2, false), (3, false), (4, false), (5, false), (6, false), (7, false), (8, false), (9, false), (10, false), (11, false), (12, false), (13, false), (14, false), (15, false), (16, false), (17, false)] (fun wS => Below w1.heap.size w1 wS) (by kernel_rfl) (by kernel_rfl) (by kernel_rfl) (Below.refl _ _).drew ?_
            repeat (first | (refine' flow2_pass (o := _) rfl _ _; (focus rfl); simp only [Act.put, List.setIfInBounds_toArray, List.set_cons_zero, List.set_cons_succ]) | (refine' flow2_take (v := _) (o := _) rfl _ _ _; rotate_left; (focus rfl); (focus (intro wS hS; have hE := Ext.refl wS; (obtain ⟨d0, d1, y0, y1⟩ := HC.out wS (H1.out.below hS).bl); go_simp; try (with_reducible (first | exact ⟨rfl, hS, hE⟩ | rfl)); done)); simp only [Act.put, List.setIfInBounds_toArray, List.set_cons_zero, List.set_cons_succ]))
            refine flow2_nil ?_
            intro wU hE hS
            have HU := Lib.hid (H1.out.below hS)
            clear hE hS
            go_wp2_with (first
              | (refine rw_load (α := Bl) rfl (.tmp 50) rfl b (off + k * 3) rfl l[k] (rangeAt_below HE.out.1 HE.out.2 HU.out.bl) ?_)
              | (refine rw_app1 (α := Bl) HU.out (by have := HLE.out; simp; omega) (by decide) _ 52 (.tmp 47) (.tmp 51) rfl rfl rfl rfl rfl l[k] rfl rfl rfl ?_; intro v5 w5 h5; have H5 := Lib.hid h5; clear h5))
            go_roundw
            case rel => exact ⟨k + 1, true, (out ++ [x]) ++ [l[k]], by omega, by go_num, rfl, HP1.out.next lB_lin hlt HN.out, H5.out⟩
            case measure => simp [intOf]; omega
      | true =>
        go_wp2_with fail
        refine wp_region_flow2_lit [(0, false), (1, false), (2, false), (3, false), (4, false), (5, false), (6, false), (7, false), (8, false), (9, false), (10, false)] (fun wS => Below wr.heap.size wr wS) (by kernel_rfl) (by kernel_rfl) (by kernel_rfl) (Below.refl _ _).drew ?_
        repeat (first | (refine' flow2_pass (o := _) rfl _ _; (focus rfl); simp only [Act.put, List.setIfInBounds_toArray, List.set_cons_zero, List.set_cons_succ]) | (refine' flow2_take (v := _) (o := _) rfl _ _ _; rotate_left; (focus rfl); (focus (intro wS hS; have hE := Ext.refl wS; (skip); go_simp; try (with_reducible (first | exact ⟨rfl, hS, hE⟩ | rfl)); done)); simp only [Act.put, List.setIfInBounds_toArray, List.set_cons_zero, List.set_cons_succ]))
        refine flow2_nil ?_
        intro wT hE hS
        have HT := Lib.hid (HO.out.below hS)
        clear hE hS
        go_wp2_with fail
        by_cases hu0 : l[k].up = x.up
        · have e0 := (str_eq l[k].up x.up).trans (decide_eq_true hu0)
          by_cases hu1 : l[k].no = x.no
          · have e1 : (l[k].no == x.no) = true := by simp [hu1]
            have HN : Hid (kB l[k] = kB x) := Lib.hid (by simp [hu0, hu1])
            clear hu0 hu1
            refine wp_region_flow2_lit [(0, false), (1, false), (2, false), (3, false), (4, false), (5, false), (6, false), (7, false), (8, false), (9, false), (10, false), (11, false), (12, false), (13, false), (14, false), (15, false), (16, false), (17, false)] (fun wS => Below wT.heap.size wT wS) (by kernel_rfl) (by kernel_rfl) (by kernel_rfl) (Below.refl _ _).drew ?_
            repeat (first | (refine' flow2_pass (o := _) rfl _ _; (focus rfl); simp only [Act.put, List.setIfInBounds_toArray, List.set_cons_zero, List.set_cons_succ]) | (refine' flow2_take (v := _) (o := _) rfl _ _ _; rotate_left; (focus rfl); (focus (intro wS hS; have hE := Ext.refl wS; (obtain ⟨d0, d1, y0, y1⟩ := HC.out wS (HT.out.below hS).bl); go_simp; try (with_reducible (first | exact ⟨rfl, hS, hE⟩ | rfl)); done)); simp only [Act.put, List.setIfInBounds_toArray, List.set_cons_zero, List.set_cons_succ]))
            refine flow2_nil ?_
            intro wU hE hS
            have HU := Lib.hid (HT.out.below hS)
            clear hE hS
            go_wp2_with fail
            go_roundw
            case rel => exact ⟨k + 1, true, out, by omega, by go_num, rfl, HP.out.skip lB_lin hlt HN.out, HU.out⟩
            case measure => simp [intOf]; omega
          · have e1 : (l[k].no == x.no) = false := by simp [hu1]
            have HN : Hid (kB l[k] ≠ kB x) := Lib.hid (by simp [hu1])
            clear hu0 hu1
            refine wp_region_flow2_lit [(0, false), (1, false), (2, false), (3, false), (4, false), (5, false), (6, false), (7, false), (8, false), (9, false), (10, false), (11, false), (12, false), (13, false), (14, false), (15, false), (16, false), (17, false)] (fun wS => Below wT.heap.size wT wS) (by kernel_rfl) (by kernel_rfl) (by kernel_rfl) (Below.refl _ _).drew ?_
            repeat (first | (refine' flow2_pass (o := _) rfl _ _; (focus rfl); simp only [Act.put, List.setIfInBounds_toArray, List.set_cons_zero, List.set_cons_succ]) | (refine' flow2_take (v := _) (o := _) rfl _ _ _; rotate_left; (focus rfl); (focus (intro wS hS; have hE := Ext.refl wS; (obtain ⟨d0, d1, y0, y1⟩ := HC.out wS (HT.out.below hS).bl); go_simp; try (with_reducible (first | exact ⟨rfl, hS, hE⟩ | rfl)); done)); simp only [Act.put, List.setIfInBounds_toArray, List.set_cons_zero, List.set_cons_succ]))
            refine flow2_nil ?_
            intro wU hE hS
            have HU := Lib.hid (HT.out.below hS)
            clear hE hS
            go_wp2_with (first
              | (refine rw_load (α := Bl) rfl (.tmp 50) rfl b (off + k * 3) rfl l[k] (rangeAt_below HE.out.1 HE.out.2 HU.out.bl) ?_)
              | (refine rw_app1 (α := Bl) HU.out (by have := HLE.out; omega) (by decide) _ 52 (.tmp 47) (.tmp 51) rfl rfl rfl rfl rfl l[k] rfl rfl rfl ?_; intro v5 w5 h5; have H5 := Lib.hid h5; clear h5))
            go_roundw
            case rel => exact ⟨k + 1, true, out ++ [l[k]], by omega, by go_num, rfl, HP.out.next lB_lin hlt HN.out, H5.out⟩
            case measure => simp [intOf]; omega
        · have e0 := (str_eq l[k].up x.up).trans (decide_eq_false hu0)
          have HN : Hid (kB l[k] ≠ kB x) := Lib.hid (by simp [hu0])
          clear hu0
          refine wp_region_flow2_lit [(0, false), (1, false), (2, false), (3, false), (4, false), (5, false), (6, false), (7, false), (8, false), (9, false), (10, false), (11, false), (12, false), (13, false), (14, false), (15, false), (16, false), (17, false)] (fun wS => Below wT.heap.size wT wS) (by kernel_rfl) (by kernel_rfl) (by kernel_rfl) (Below.refl _ _).drew ?_
          repeat (first | (refine' flow2_pass (o := _) rfl _ _; (focus rfl); simp only [Act.put, List.setIfInBounds_toArray, List.set_cons_zero, List.set_cons_succ]) | (refine' flow2_take (v := _) (o := _) rfl _ _ _; rotate_left; (focus rfl); (focus (intro wS hS; have hE := Ext.refl wS; (obtain ⟨d0, d1, y0, y1⟩ := HC.out wS (HT.out.below hS).bl); go_simp; try (with_reducible (first | exact ⟨rfl, hS, hE⟩ | rfl)); done)); simp only [Act.put, List.setIfInBounds_toArray, List.set_cons_zero, List.set_cons_succ]))
          refine flow2_nil ?_
          intro wU hE hS
          have HU := Lib.hid (HT.out.below hS)
          clear hE hS
          go_wp2_with (first
            | (refine rw_load (α := Bl) rfl (.tmp 50) rfl b (off + k * 3) rfl l[k] (rangeAt_below HE.out.1 HE.out.2 HU.out.bl) ?_)
            | (refine rw_app1 (α := Bl) HU.out (by have := HLE.out; omega) (by decide) _ 52 (.tmp 47) (.tmp 51) rfl rfl rfl rfl rfl l[k] rfl rfl rfl ?_; intro v5 w5 h5; have H5 := Lib.hid h5; clear h5))
          go_roundw
          case rel => exact ⟨k + 1, true, out ++ [l[k]], by omega, by go_num, rfl, HP.out.next lB_lin hlt HN.out, H5.out⟩
          case measure => simp [intOf]; omega
    · have hltI : ¬ (k : Int) < (l.length : Int) := by omega
      obtain rfl : k = l.length := by omega
      cases done with
      | false =>
        have HEN := Lib.hid (HP.out.endNo lB_lin)
        go_wp2_with (first
            | (refine rw_load (α := Bl) rfl (.tmp 3) rfl w.heap.size 0 rfl x (range_row ((HO.out.bl.block _ (heap_lt HX.out)).trans HX.out)) ?_)
            | (refine rw_app1 (α := Bl) HO.out (by have := HLE.out; omega) (by decide) _ 58 (.tmp 56) (.tmp 57) rfl rfl rfl rfl rfl x rfl rfl rfl ?_; intro v1 w1 h1; have H1 := Lib.hid h1; clear h1))
        go_ret
        exact ⟨_, rfl, HEN.out ▸ H1.out.rs.mono (Nat.zero_le _), HB.out.trans (H1.out.bl.mono HB.out.size)⟩
      | true =>
        have HEN := Lib.hid (HP.out.endYes)
        go_wp2_with fail
        go_ret
        exact ⟨_, rfl, HEN.out ▸ HO.out.rs.mono (Nat.zero_le _), HB.out.trans (HO.out.bl.mono HB.out.size)⟩
end Go.Proofs.YtokhnbdhcehonaaGreat
/- index: the document's taken. -/
namespace Go.Proofs.YtokhnbdhcehonaaGreat
open Go Go.RowKit Row
set_option maxRecDepth 100000
def tk (x : Ch) (y : Bl) : Bool := y.sl == x.sl && !decide (kB y = (x.up, x.no))
theorem any_first {α : Type} {p : α → Bool} {l : List α} {k : Nat} (hk : k < l.length) (h : p l[k] = true) : l.any p = true := List.any_eq_true.2 ⟨_, List.getElem_mem hk, h⟩
set_option maxHeartbeats 8000000 in
theorem taken_any {l : List Bl} {cv : Cv} {w : World} (h : Rs w 0 cv.d.v l) (x : Ch) :
    Calls Tryz.prog 83 #[.agg (arr cv), .agg (arr x)] w fun r w' => r = .returned (.bool (l.any (tk x))) ∧ Below w.heap.size w w' := by
  obtain ⟨W, hW⟩ : ∃ W, W = (w.alloc (.cells (arr cv) 30)).alloc (.cells (arr x) 69) := ⟨_, rfl⟩
  have hb0 : Below w.heap.size w W := by rw [hW]; go_grown
  have HC : Hid (W.heap[w.heap.size]? = some (.cells (arr cv) 30)) := Lib.hid (by rw [hW]; exact heap_old_at (heap_alloc_new _ _))
  have HX : Hid (W.heap[w.heap.size + 1]? = some (.cells (arr x) 69)) := Lib.hid (by rw [hW]; exact heap_new_at _ _ (alloc_size _ _))
  have hr := h.below hb0
  obtain ⟨A, cap, hv, hlc, hcap⟩ := hr.any
  rw [hv] at hr
  have HV := Lib.hid hv
  have HR := Lib.hid hr
  have HB := Lib.hid hb0
  have HW := Lib.hid hW
  clear h hv hr hb0 hW
  obtain ⟨r, hfr⟩ : ∃ r, r = l.any (tk x) := ⟨_, rfl⟩
  rw [← hfr]
  have HFR := Lib.hid hfr
  clear hfr
  have hm63 : maxLen = 9223372036854775807 := rfl
  go_enter Tryz.func83, Tryz.ntmps83
  go_wp2_with fail
  rw [← HW.out]
  go_loopw [5] (fun i wq => ∃ k : Nat, k ≤ l.length ∧ i = .int .i64 k ∧ (∀ y ∈ l.take k, tk x y = false) ∧ Below W.heap.size W wq) (fun i _ => l.length - (intOf i).toNat)
  case atStart => exact ⟨0, by omega, rfl, (fun y hy => by simp at hy), Below.refl _ _⟩
  case round =>
    obtain ⟨k, hk, rfl, hno, hbq⟩ := hrel
    have HN := Lib.hid hno
    have HQ := Lib.hid hbq
    clear hno hbq
    have c3 := (cv_cells ((HQ.out.block _ (heap_lt HC.out)).trans HC.out)).2.2.2
    rw [HV.out] at c3
    by_cases hlt : k < l.length
    · have hltI : (k : Int) < (l.length : Int) := by omega
      obtain ⟨b, off, cap', he, _, _⟩ := HR.out.shape (by omega)
      cases he
      have HE := Lib.hid (rangeAt_below (HR.out.range hlt) (HR.out.lt b rfl) HQ.out)
      have HQ1 := Lib.hid (HQ.out.trans ((bel_box (w := wr) (o := .cells (arr l[k]) (RowT.T Bl))).mono HQ.out.size))
      have d0 : (wr.alloc (.cells (arr l[k]) (RowT.T Bl))).cell? ⟨wr.heap.size, 0, none⟩ = some (.string l[k].up) := by rw [row_cell (heap_alloc_new wr _)]; rfl
      have d1 : (wr.alloc (.cells (arr l[k]) (RowT.T Bl))).cell? ⟨wr.heap.size, 1, none⟩ = some (.int .i64 l[k].no) := by rw [row_cell (heap_alloc_new wr _)]; rfl
      have d2 : (wr.alloc (.cells (arr l[k]) (RowT.T Bl))).cell? ⟨wr.heap.size, 2, none⟩ = some (.int .i64 l[k].sl) := by rw [row_cell (heap_alloc_new wr _)]; rfl
      obtain ⟨⟨-, -, -, x3⟩, -, -, x7, x8⟩ := ch_cells ((HQ1.out.block _ (heap_lt HX.out)).trans HX.out)
      by_cases hu0 : l[k].sl = x.sl
      · have e0 : (l[k].sl == x.sl) = true := by simp [hu0]
        by_cases hu1 : l[k].up = x.up
        · have e1 := (str_eq l[k].up x.up).trans (decide_eq_true hu1)
          by_cases hu2 : l[k].no = x.no
          · have e2 : (l[k].no == x.no) = true := by simp [hu2]
            have HU := Lib.hid (show tk x l[k] = false by simp [tk, hu0, hu1, hu2])
            clear hu0 hu1 hu2
            go_upto_region 5 with (first
              | (refine rw_put (α := Bl) _ 6 (.tmp 18) rfl rfl rfl rfl rfl rfl l[k] rfl rfl ?_)
              | (refine rw_load (α := Bl) rfl (.tmp 17) rfl b (off + k * 3) rfl l[k] HE.out ?_))
            go_wp2_with fail
            go_roundw
            case rel => exact ⟨k + 1, by omega, by go_num, take_next hlt HN.out HU.out, HQ1.out⟩
            case measure => simp [intOf]; omega
          · have e2 : (l[k].no == x.no) = false := by simp [hu2]
            obtain rfl := HFR.out.trans (any_first hlt (by simp [tk, hu0, hu2]))
            clear hu0 hu1 hu2
            go_upto_region 5 with (first
              | (refine rw_put (α := Bl) _ 6 (.tmp 18) rfl rfl rfl rfl rfl rfl l[k] rfl rfl ?_)
              | (refine rw_load (α := Bl) rfl (.tmp 17) rfl b (off + k * 3) rfl l[k] HE.out ?_))
            go_wp2_with fail
            go_ret
            exact ⟨rfl, HB.out.trans (HQ1.out.mono HB.out.size)⟩
        · have e1 := (str_eq l[k].up x.up).trans (decide_eq_false hu1)
          obtain rfl := HFR.out.trans (any_first hlt (by simp [tk, hu0, hu1]))
          clear hu0 hu1
          go_upto_region 5 with (first
              | (refine rw_put (α := Bl) _ 6 (.tmp 18) rfl rfl rfl rfl rfl rfl l[k] rfl rfl ?_)
              | (refine rw_load (α := Bl) rfl (.tmp 17) rfl b (off + k * 3) rfl l[k] HE.out ?_))
          go_wp2_with fail
          go_ret
          exact ⟨rfl, HB.out.trans (HQ1.out.mono HB.out.size)⟩
      · have e0 : (l[k].sl == x.sl) = false := by simp [hu0]
        have HU := Lib.hid (show tk x l[k] = false by simp [tk, hu0])
        clear hu0
        go_upto_region 5 with (first
              | (refine rw_put (α := Bl) _ 6 (.tmp 18) rfl rfl rfl rfl rfl rfl l[k] rfl rfl ?_)
              | (refine rw_load (α := Bl) rfl (.tmp 17) rfl b (off + k * 3) rfl l[k] HE.out ?_))
        go_wp2_with fail
        go_roundw
        case rel => exact ⟨k + 1, by omega, by go_num, take_next hlt HN.out HU.out, HQ1.out⟩
        case measure => simp [intOf]; omega
    · have hltI : ¬ (k : Int) < (l.length : Int) := by omega
      obtain rfl : k = l.length := by omega
      have HM := HN.out
      rw [List.take_length] at HM
      obtain rfl := HFR.out.trans (List.any_eq_false.2 (fun y hy => by simp [HM y hy]))
      clear HM HN
      go_wp2_with fail
      go_ret
      exact ⟨rfl, HB.out.trans (HQ.out.mono HB.out.size)⟩
end Go.Proofs.YtokhnbdhcehonaaGreat
