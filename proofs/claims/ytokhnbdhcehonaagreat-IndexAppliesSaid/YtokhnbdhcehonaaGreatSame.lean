/- index: the document's Same of two lists of changes; of two caches. -/
import Derived.Test.YtokhnbdhcehonaaGreatChg
set_option linter.unusedSimpArgs false
set_option linter.unusedVariables false
namespace Go.Proofs.YtokhnbdhcehonaaGreat
open Go Go.RowKit Row
set_option maxRecDepth 100000
theorem gives_neqc {w : World} {o : Oper} {a : Act} {K : World → Prop} (x y : Operand) (t : TypeId) (ho : o.op = .binOp .neq 69 x y t) (p q : Ch) (hx : a.eval x = .agg (arr p)) (hy : a.eval y = .agg (arr q)) {b : Bool} (hb : (!decide (p = q)) = b) (hK : K w) : givesR Tryz.prog K (.bool b) ((execOp a.eval o).run Tryz.prog w) := by
  unfold execOp
  simp only [ho, hx, hy, Sem.run_bind, Sem.run_pure, Result.andThen_ok, run_eqGuard_agg (hm := noGuard69), run_neq_struct, equal_ch, hb]
  exact ⟨rfl, hK⟩
set_option maxHeartbeats 8000000 in
/-- of one list with itself, it may lie at two places -/
theorem rsame_self {l : List Ch} {v u : Value} {w : World} (h : Rs w 0 v l) (k : Rs w 0 u l) : Calls Tryz.prog 37 #[v, u] w fun r w' => r = .returned (.bool true) ∧ Below w.heap.size w w' := by
  obtain ⟨A, cap, hv, hlc, hcap⟩ := h.any
  subst hv
  obtain ⟨A2, cap2, hv2, hlc2, hcap2⟩ := k.any
  subst hv2
  have HR := Lib.hid h
  have HR2 := Lib.hid k
  clear h k
  have hm63 : maxLen = 9223372036854775807 := rfl
  go_enter Tryz.func37, Tryz.ntmps37
  go_wp2_with fail
  go_loopw [5] (fun i wq => ∃ k : Nat, k ≤ l.length ∧ i = .int .i64 k ∧ Below w.heap.size w wq) (fun i _ => l.length - (intOf i).toNat)
  case atStart => exact ⟨0, by omega, rfl, Below.refl _ _⟩
  case round =>
    obtain ⟨k, hk, rfl, hb⟩ := hrel
    have HB := Lib.hid hb
    clear hb
    by_cases hlt : k < l.length
    · have hltI : (k : Int) < (l.length : Int) := by omega
      obtain ⟨b, off, cap', he, _, _⟩ := HR.out.shape (by omega)
      cases he
      obtain ⟨b2, off2, cap2', he2, _, _⟩ := HR2.out.shape (by omega)
      cases he2
      have HE : Hid (∀ wS, Below w.heap.size w wS → wS.rangeAt b (off + k * 18) (cells l[k])) := Lib.hid (fun wS hS => rangeAt_below (HR.out.range hlt) (HR.out.lt b rfl) hS)
      have HE2 : Hid (∀ wS, Below w.heap.size w wS → wS.rangeAt b2 (off2 + k * 18) (cells l[k])) := Lib.hid (fun wS hS => rangeAt_below (HR2.out.range hlt) (HR2.out.lt b2 rfl) hS)
      go_wp2_with fail
      refine wp_region_flow2_lit [(0, false), (1, false), (2, false), (3, false), (4, false), (5, false), (6, false), (7, false), (8, false)] (fun wS => Below w.heap.size w wS) (by kernel_rfl) (by kernel_rfl) (by kernel_rfl) HB.out.drew ?_
      repeat (first | (refine' flow2_pass (o := _) rfl _ _; (focus rfl); simp only [Act.put, List.setIfInBounds_toArray, List.set_cons_zero, List.set_cons_succ]) | (refine' flow2_take (v := _) (o := _) rfl _ _ _; rotate_left; (focus rfl); (focus (intro wS hS; have hE := Ext.refl wS; (skip); go_simp; try (with_reducible (first | exact ⟨rfl, hS, hE⟩ | rfl)); done)); simp only [Act.put, List.setIfInBounds_toArray, List.set_cons_zero, List.set_cons_succ]))
      (refine flow2_take (v := .agg (arr l[k])) (o := _) rfl rfl (fun wS hS => gives_row rfl rfl (HE.out wS hS) ⟨hS, Ext.refl wS⟩) ?_; simp only [Act.put, List.setIfInBounds_toArray, List.set_cons_zero, List.set_cons_succ])
      repeat (first | (refine' flow2_pass (o := _) rfl _ _; (focus rfl); simp only [Act.put, List.setIfInBounds_toArray, List.set_cons_zero, List.set_cons_succ]) | (refine' flow2_take (v := _) (o := _) rfl _ _ _; rotate_left; (focus rfl); (focus (intro wS hS; have hE := Ext.refl wS; (skip); go_simp; try (with_reducible (first | exact ⟨rfl, hS, hE⟩ | rfl)); done)); simp only [Act.put, List.setIfInBounds_toArray, List.set_cons_zero, List.set_cons_succ]))
      (refine flow2_take (v := .agg (arr l[k])) (o := _) rfl rfl (fun wS hS => gives_row rfl rfl (HE2.out wS hS) ⟨hS, Ext.refl wS⟩) ?_; simp only [Act.put, List.setIfInBounds_toArray, List.set_cons_zero, List.set_cons_succ])
      (refine flow2_take (v := .bool false) (o := _) rfl rfl (fun wS hS => gives_neqc (.tmp 20) (.tmp 24) 69 rfl l[k] l[k] rfl rfl (by simp) ⟨hS, Ext.refl wS⟩) ?_; simp only [Act.put, List.setIfInBounds_toArray, List.set_cons_zero, List.set_cons_succ])
      refine flow2_nil ?_
      intro wT hE hS
      have HT := Lib.hid hS
      clear hE hS
      go_wp2_with fail
      go_roundw
      case rel => exact ⟨k + 1, by omega, by go_num, HT.out⟩
      case measure => simp [intOf]; omega
    · have hltI : ¬ (k : Int) < (l.length : Int) := by omega
      go_wp2_with fail
      go_ret
      exact ⟨rfl, HB.out⟩
set_option maxHeartbeats 8000000 in
theorem same_self {c : Ca} {cv cv2 : Cv} {w : World} (h : CaAt w cv c) (k : CaAt w cv2 c) (hf : Few c 100) : Calls Tryz.prog 14 #[.agg (arr cv), .agg (arr cv2)] w fun r w' => r = .returned (.bool true) ∧ Below w.heap.size w w' := by
  obtain ⟨W, hW⟩ : ∃ W, W = (w.alloc (.cells (arr cv) (RowT.T Cv))).alloc (.cells (arr cv2) (RowT.T Cv)) := ⟨_, rfl⟩
  have hb0 : Below w.heap.size w W := by rw [hW]; go_grown
  have H1 : Hid (W.heap[w.heap.size]? = some (.cells (arr cv) (RowT.T Cv))) := Lib.hid (by rw [hW]; exact heap_old_at (heap_alloc_new _ _))
  have H2 : Hid (W.heap[w.heap.size + 1]? = some (.cells (arr cv2) (RowT.T Cv))) := Lib.hid (by rw [hW]; exact heap_new_at _ _ (alloc_size _ _))
  have HB := Lib.hid hb0
  have HC1 := Lib.hid (h.below hb0)
  have HC2 := Lib.hid (k.below hb0)
  have HFW := Lib.hid hf
  have HW := Lib.hid hW
  clear h k hb0 hf hW
  go_enter Tryz.func14, Tryz.ntmps14
  go_wp2_with fail
  rw [show ((w.alloc (.cells (arr cv) 30)).alloc (.cells (arr cv2) 30)) = W from HW.out.symm]
  refine wp_region_flow2_lit [(0, false), (2, false), (1, true), (3, true), (4, true), (5, false)] (fun wS => Below W.heap.size W wS) (by kernel_rfl) (by kernel_rfl) (by kernel_rfl) (Below.refl _ _).drew ?_
  (refine flow2_take (v := .agg (arr cv)) (o := _) rfl rfl (fun wS hS => gives_row rfl rfl (range_row ((hS.block _ (heap_lt H1.out)).trans H1.out)) ⟨hS, Ext.refl wS⟩) ?_; simp only [Act.put, List.setIfInBounds_toArray, List.set_cons_zero, List.set_cons_succ])
  (refine flow2_take (v := .agg (arr cv2)) (o := _) rfl rfl (fun wS hS => gives_row rfl rfl (range_row ((hS.block _ (heap_lt H2.out)).trans H2.out)) ⟨hS, Ext.refl wS⟩) ?_; simp only [Act.put, List.setIfInBounds_toArray, List.set_cons_zero, List.set_cons_succ])
  refine flow2_turn (o := _) rfl rfl ?_
  intro wT hE hS K hK
  go_simp
  refine (changes_any (HC1.out.below hS) HFW.out).mono ?_
  rintro e w1 ⟨v1, rfl, hr1, hb1⟩
  have HR1 := Lib.hid hr1
  have hS1 := hS.trans (hb1.mono hS.size)
  refine hK _ _ hS1 ?_
  clear hE hS hK K hb1 hr1 hS1
  simp only [Act.put, List.setIfInBounds_toArray, List.set_cons_zero, List.set_cons_succ]
  refine flow2_turn (o := _) rfl rfl ?_
  intro wU hE hS K hK
  go_simp
  refine (changes_any (HC2.out.below hS) HFW.out).mono ?_
  rintro e w2 ⟨v2, rfl, hr2, hb2⟩
  have HR2 := Lib.hid hr2
  have HR12 := Lib.hid ((HR1.out.below hE).below hb2)
  have hS1 := hS.trans (hb2.mono hS.size)
  refine hK _ _ hS1 ?_
  clear hE hS hK K hb2 hr2 hS1
  simp only [Act.put, List.setIfInBounds_toArray, List.set_cons_zero, List.set_cons_succ]
  refine flow2_turn (o := _) rfl rfl ?_
  intro wV hE hS K hK
  go_simp
  refine (rsame_self (HR12.out.below hE) (HR2.out.below hE)).mono ?_
  rintro e w3 ⟨rfl, hb3⟩
  have hS1 := hS.trans (hb3.mono hS.size)
  refine hK _ _ hS1 ?_
  clear hE hS hK K hb3 hS1
  simp only [Act.put, List.setIfInBounds_toArray, List.set_cons_zero, List.set_cons_succ]
  repeat (first | (refine' flow2_pass (o := _) rfl _ _; (focus rfl); simp only [Act.put, List.setIfInBounds_toArray, List.set_cons_zero, List.set_cons_succ]) | (refine' flow2_take (v := _) (o := _) rfl _ _ _; rotate_left; (focus rfl); (focus (intro wS hS; have hE := Ext.refl wS; (skip); go_simp; try (with_reducible (first | exact ⟨rfl, hS, hE⟩ | rfl)); done)); simp only [Act.put, List.setIfInBounds_toArray, List.set_cons_zero, List.set_cons_succ]))
  refine flow2_nil ?_
  intro wX hE hS
  have HX := Lib.hid (HB.out.trans (hS.mono HB.out.size))
  clear hE hS
  go_wp2_with fail
  go_ret
  exact ⟨rfl, HX.out⟩
end Go.Proofs.YtokhnbdhcehonaaGreat
