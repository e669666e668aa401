/- index: slices.Insert (printed by gen_bs.py off its template). -/
import Derived.Test.YtokhnbdhcehonaaGreatRowk3
set_option linter.unusedSimpArgs false
set_option linter.unusedVariables false
namespace Go.Proofs.YtokhnbdhcehonaaGreat
open Go Go.RowKit Row
set_option maxRecDepth 100000
set_option maxHeartbeats 16000000 in
theorem in_Hd {l : List Hd} {v : Value} {B i vb : Nat} {w : World} (x : Hd) (hi : i ≤ l.length) (hlen : l.length ≤ 1000) (hB : B ≤ w.heap.size) (h : Rs w B v l) (hx : w.heap[vb]? = some (.cells (arr x) 40)) (hne : v.ownBlock ≠ some vb) :
    Calls Tryz.prog 134 #[v, .int .i64 i, .slice (some ⟨vb, 0, none⟩) 1 1] w fun e w' => ∃ v', e = .returned v' ∧ Rs w' B v' (l.take i ++ x :: l.drop i) ∧ Below B w w' := by
  have hv1 : Rs w 0 (.slice (some ⟨vb, 0, none⟩) 1 1) [x] := ⟨by rw [enc_len], .inr ⟨vb, 0, 1, arr x, rfl, Nat.zero_le _, hx, Nat.le_refl _, by decide, by rw [arr_size]; omega, fun j u hu => by
    rw [enc_cons, enc_nil, List.append_nil] at hu
    simpa using hu⟩⟩
  have hm63 : maxLen = 9223372036854775807 := rfl
  by_cases hin : i = l.length
  · have HF : Hid (l.take i ++ x :: l.drop i = l ++ [x]) := Lib.hid (by rw [hin, List.take_length, List.drop_length])
    subst hin
    have HV := Lib.hid hv1
    have HR := Lib.hid h
    obtain ⟨A, cap, hv, hlc, hcap⟩ := h.any
    subst hv
    clear h hv1 hx hi
    have e1 : ((1 : Int) == 0) = false := by decide
    have e2 : ((l.length : Int) == (l.length : Int)) = true := by simp
    cases A with
    | none =>
      obtain ⟨hl0, _, rfl⟩ := HR.out.nilled
      have hl00 : l.length = 0 := by rw [hl0]; rfl
      go_enter Tryz.func134, Tryz.ntmps134
      go_wp2_with (refine rw_append (α := Hd) rfl (.tmp 23) (.tmp 24) rfl rfl HR.out rfl HV.out (by simp; omega) hB ?_; intro v' w' h1 h2 h3; have H1 := Lib.hid h1; have HB1 : Hid (Below B w w') := Lib.hid ((Below.refl B w).grown h2 hB (fun j hj => HR.out.ge j hj)); clear h1 h2 h3)
      go_ret
      exact ⟨v', rfl, by rw [HF.out]; exact H1.out, HB1.out⟩
    | some ad =>
      obtain ⟨b, off, sp⟩ := ad
      by_cases hcn : cap = l.length
      · go_enter Tryz.func134, Tryz.ntmps134
        go_wp2_with (refine rw_append (α := Hd) rfl (.tmp 23) (.tmp 24) rfl rfl HR.out rfl HV.out (by simp; omega) hB ?_; intro v' w' h1 h2 h3; have H1 := Lib.hid h1; have HB1 : Hid (Below B w w') := Lib.hid ((Below.refl B w).grown h2 hB (fun j hj => HR.out.ge j hj)); clear h1 h2 h3)
        go_ret
        exact ⟨v', rfl, by rw [HF.out]; exact H1.out, HB1.out⟩
      · go_enter Tryz.func134, Tryz.ntmps134
        go_wp2_with (refine rw_append (α := Hd) rfl (.tmp 23) (.tmp 24) rfl rfl HR.out rfl HV.out (by simp; omega) hB ?_; intro v' w' h1 h2 h3; have H1 := Lib.hid h1; have HB1 : Hid (Below B w w') := Lib.hid ((Below.refl B w).grown h2 hB (fun j hj => HR.out.ge j hj)); clear h1 h2 h3)
        go_ret
        exact ⟨v', rfl, by rw [HF.out]; exact H1.out, HB1.out⟩
  · have hil : i < l.length := by omega
    obtain ⟨b, off, cap, hv, hlc, hcap⟩ := h.shape (by omega)
    subst hv
    have hbv : b ≠ vb := by simpa [Value.ownBlock] using hne
    have HV := Lib.hid hv1
    have HR := Lib.hid h
    have HX := Lib.hid hx
    have e1 : ((1 : Int) == 0) = false := by decide
    have e2 : ((i : Int) == (l.length : Int)) = false := by simp; omega
    clear h hv1 hx hne hin hi
    by_cases hroom : cap < l.length + 1
    · obtain ⟨W', c2, ys, hrun, hmade, hbw⟩ := made_rs HR.out hil hlen hroom
      have HRUN := Lib.hid hrun
      have HM := Lib.hid hmade
      have HBW := Lib.hid hbw
      have HVW := Lib.hid ((Sl.news (HV.out.below hbw)).2 _ rfl)
      have HYL : Hid (ys.length = (l.length + 1 - i) * n Hd) := Lib.hid (by
        have h1 := hmade.1
        rw [List.length_append, enc_len, List.length_take, Nat.min_eq_left (by omega)] at h1
        have e5 : i * n Hd + (l.length + 1 - i) * n Hd = (l.length + 1) * n Hd := by rw [← Nat.add_mul]; congr 1; omega
        omega)
      have hc2 : l.length + 1 ≤ c2 := by
        rcases hmade.2 with ⟨h0, _⟩ | ⟨_, _, _, _, he, _, _, h1, _⟩
        · cases h0
        · cases he; exact h1
      have hc3 : ¬ c2 = i := by omega
      have hc4 : ¬ c2 = i + 1 := by omega
      clear hrun hmade hbw
      have hcl : cap = l.length := by omega
      subst hcl
      go_enter Tryz.func134, Tryz.ntmps134
      go_wp2_with (first
        | (at_builtin; refine Lib.wpList_append_run _ rfl (.tmp 34) (.tmp 39) 25 3 rfl (.slice (some ⟨b, off, none⟩) i l.length) (.int .i64 ((l.length + 1 - i : Nat) : Int)) rfl (by show Value.int IntKind.i64 ((l.length : Int) + 1 - (i : Int)) = _; congr 1; omega) _ _ (HRUN.out _) ?_)
        | (refine rw_copy (α := Hd) rfl (.tmp 43) (.tmp 44) rfl HM.out (k := i) [x] ⟨vb, 0, none⟩ 1 1 (c2 - i) (by simp; omega) (by show min 1 (l.length + 1 - i) = 1; omega) HVW.out (by first | rfl | (rw [Nat.zero_add]; rfl)) rfl ?_; intro w3 h3 hg3 hs3; have H3 := Lib.hid h3; have HB3 := Lib.hid (HBW.out.grown hg3 HBW.out.size (fun k hk => by cases hk; exact Nat.le_refl _)); clear h3 hg3 hs3))
      have HSRC := Lib.hid ((Sl.news (HR.out.below HB3.out)).2 _ rfl)
      refine wp_region_flow2_lit [(0, false), (1, false), (2, false), (3, false), (4, false), (5, false), (6, false), (7, false), (8, true)] (fun wS => Below w.heap.size w wS) (by kernel_rfl) (by kernel_rfl) (by kernel_rfl) HB3.out.drew ?_
      have HW1 : Hid (IntKind.i64.wrap ((i : Int) + 1) = (i : Int) + 1) := Lib.hid (by rw [IntKind.wrap_i64]; omega)
      repeat (first | (refine' flow2_pass (o := _) rfl _ _; (focus rfl); simp only [Act.put, List.setIfInBounds_toArray, List.set_cons_zero, List.set_cons_succ]) | (refine' flow2_take (v := _) (o := _) rfl _ _ _; rotate_left; (focus rfl); (focus (intro wS hS; have hE := Ext.refl wS; (have hw1 := HW1.out; have htn : ((i : Int) + 1).toNat = i + 1 := (by omega); have hb1 : (0 : Int) ≤ (i : Int) + 1 := (by omega); have hb2 : (i : Int) + 1 ≤ (l.length : Int) + 1 := (by omega); have hb3 : i ≤ l.length := (by omega); have hb4 : ¬ l.length = i := (by omega)); go_simp; try (with_reducible (first | exact ⟨rfl, hS, hE⟩ | rfl)); done)); simp only [Act.put, List.setIfInBounds_toArray, List.set_cons_zero, List.set_cons_succ]))
      refine flow2_turn (o := _) rfl rfl ?_
      intro wT hE hS K hK
      have hE3 : Below w3.heap.size w3 wT := (Below.refl w3.heap.size w3).drew.trans hE
      have HH := Lib.hid (H3.out.below hE3)
      have HST := Lib.hid hS
      refine turn_copy (α := Hd) (.tmp 50) (.tmp 53) rfl HH.out (k := i + 1) (l.drop i) ⟨b, off + i * n Hd, none⟩ (l.length - i) (l.length - i) (c2 - (i + 1)) (by rw [List.length_drop]; omega) (by rw [List.length_drop]; show min (l.length - i) (l.length + 1 - (i + 1)) = l.length - i; omega) (fun j u hu => ?_) (by first | rfl | (rw [Nat.zero_add]; rfl) | (rw [Nat.zero_add, Nat.add_sub_add_right]; rfl)) rfl ?_
      · rw [enc_drop, List.getElem?_drop] at hu
        have := (Sl.news (HR.out.below (HB3.out.trans (hE3.mono HB3.out.size)))).2 _ rfl _ u hu
        rw [addr_add] at this
        rw [addr_add, Nat.add_assoc]
        exact this
      · intro w4 h4 hg4 hs4
        refine hK _ _ (HST.out.grown hg4 HST.out.size (fun k hk => by cases hk; exact Nat.le_refl _)) ?_
        have H4 := Lib.hid h4
        clear hK K h4 hg4 hs4 HST
        simp only [Act.put, List.setIfInBounds_toArray, List.set_cons_zero, List.set_cons_succ]
        refine flow2_nil ?_
        intro w5 hE5 hS5
        have H5 := Lib.hid (H4.out.below hE5)
        have HB5 := Lib.hid hS5
        clear hE5 hS5
        go_wp2_with fail
        go_ret
        refine ⟨_, rfl, ?_, HB5.out.mono hB⟩
        have hz := H5.out.mono hB
        rw [ins_grow hil x HYL.out] at hz
        show Sl _ _ _ _ _ _ _
        rw [show (l.take i ++ x :: l.drop i).length = l.length + 1 by simp; omega]
        exact hz
    · obtain ⟨ys, hyl, hout⟩ := Sl.out HR.out (k := l.length + 1) (by omega) (by omega)
      have HO := Lib.hid hout
      have HYL := Lib.hid hyl
      have hrc : l.length + 1 ≤ cap := by omega
      have hc3 : ¬ cap = i := by omega
      have hc4 : ¬ cap = i + 1 := by omega
      obtain ⟨cur, hcur⟩ : ∃ cur, w.heap[b]? = some (.cells cur (RowT.T Hd)) := by
        rcases hout.2 with ⟨h0, _⟩ | ⟨_, _, _, cur, he, _, hg, _⟩
        · cases h0
        · cases he; exact ⟨cur, hg⟩
      have hcs : cur.size ≠ 0 := by
        rcases hout.2 with ⟨h0, _⟩ | ⟨_, _, _, cur', he, _, hg, _, _, h3, _⟩
        · cases h0
        · cases he
          rw [hcur] at hg
          cases hg
          have e1 : 1 * n Hd ≤ cap * n Hd := Nat.mul_le_mul_right _ (by omega)
          have e2 : n Hd = 3 := rfl
          omega
      have hov : ∀ lb cb, (callFunc 157 #[.slice (some ⟨vb, 0, none⟩) 1 1, .slice (some ⟨b, off + (i + 1) * 3, none⟩) lb cb]).run Tryz.prog w = .ok (.value (.bool false)) w := fun lb cb => by
        rw [run_callFunc_extern Tryz.func157 (by kernel_rfl) (by kernel_rfl) (by kernel_rfl) (e := Extern.SlicesOverlaps.overlaps #[25, 25] #[4]) (by kernel_rfl),
          Lib.run_overlaps_apart w 25 4 40 Tryz.underlying25 3 Tryz.sizeOf40 ⟨vb, 0, none⟩ ⟨b, off + (i + 1) * 3, none⟩ 1 1 lb cb (fun h => hbv h.symm) 40 40 (arr x).size cur.size (shape_cells HX.out) (shape_cells hcur) hcs (row_froz HX.out _) (row_froz HX.out _)]
        rfl
      clear hyl hout hcur hcs cur
      go_enter Tryz.func134, Tryz.ntmps134
      go_wp2_with (simp only [hov])
      refine wp_region_flow2_lit [(0, false), (1, false), (2, false), (3, false), (4, false), (5, false), (6, false), (7, false), (8, true)] (fun wS => Below B w wS ∧ wS.heap[vb]? = some (.cells (arr x) 40)) (by kernel_rfl) (by kernel_rfl) (by kernel_rfl) ⟨(Below.refl B w).drew, HX.out⟩ ?_
      have HW1 : Hid (IntKind.i64.wrap ((i : Int) + 1) = (i : Int) + 1) := Lib.hid (by rw [IntKind.wrap_i64]; omega)
      repeat (first | (refine' flow2_pass (o := _) rfl _ _; (focus rfl); simp only [Act.put, List.setIfInBounds_toArray, List.set_cons_zero, List.set_cons_succ]) | (refine' flow2_take (v := _) (o := _) rfl _ _ _; rotate_left; (focus rfl); (focus (intro wS hS; have hE := Ext.refl wS; (have hw1 := HW1.out; have htn : ((i : Int) + 1).toNat = i + 1 := (by omega); have hb1 : (0 : Int) ≤ (i : Int) + 1 := (by omega); have hb2 : (i : Int) + 1 ≤ (l.length : Int) + 1 := (by omega); have hb3 : i ≤ l.length + 1 := (by omega); have hb4 : (i : Int) ≤ (l.length : Int) + 1 := (by omega)); go_simp; try (with_reducible (first | exact ⟨rfl, hS, hE⟩ | rfl)); done)); simp only [Act.put, List.setIfInBounds_toArray, List.set_cons_zero, List.set_cons_succ]))
      refine flow2_turn (o := _) rfl rfl ?_
      intro wT hE hS K hK
      have hE3 : Below w.heap.size w wT := (Below.refl w.heap.size w).drew.trans hE
      have HH := Lib.hid (HO.out.below hE3)
      have HST := Lib.hid hS
      refine turn_copy (α := Hd) (.tmp 73) (.tmp 76) rfl HH.out (k := i + 1) (l.drop i) ⟨b, off + i * n Hd, none⟩ (l.length + 1 - i) (cap - i) (cap - (i + 1)) (by rw [List.length_drop]; omega) (by rw [List.length_drop]; show min (l.length + 1 - i) (l.length + 1 - (i + 1)) = l.length - i; omega) (fun j u hu => ?_) (by first | rfl | (rw [Nat.add_sub_add_right]; rfl)) rfl ?_
      · rw [enc_drop, List.getElem?_drop] at hu
        have := (Sl.news (HR.out.below hE3)).2 _ rfl _ u hu
        rw [addr_add] at this
        rw [addr_add, Nat.add_assoc]
        exact this
      · intro w4 h4 hg4 hs4
        have hvb4 := (hg4.block vb (heap_lt HST.out.2) (by simpa using fun h => hbv h.symm)).trans HST.out.2
        refine hK _ _ ⟨HST.out.1.grown hg4 (Nat.le_trans hB HST.out.1.size) (fun k hk => by cases hk; exact HR.out.ge b rfl), hvb4⟩ ?_
        have H4 := Lib.hid h4
        clear hK K h4 hg4 hs4 HST hvb4
        simp only [Act.put, List.setIfInBounds_toArray, List.set_cons_zero, List.set_cons_succ]
        refine flow2_nil ?_
        intro w5 hE5 hS5
        have H5 := Lib.hid (H4.out.below hE5)
        have HB5 := Lib.hid hS5.1
        have HV5 := Lib.hid (range_row hS5.2)
        clear hE5 hS5
        go_wp2_with (refine rw_copy (α := Hd) rfl (.tmp 80) (.tmp 81) rfl H5.out (k := i) [x] ⟨vb, 0, none⟩ 1 1 (cap - i) (by simp; omega) (by show min 1 (l.length + 1 - i) = 1; omega) (fun j u hu => by rw [addr_add]; exact HV5.out j u (by rwa [enc_cons, enc_nil, List.append_nil] at hu)) rfl rfl ?_; intro w6 h6 hg6 hs6; have H6 := Lib.hid h6; have HB6 := Lib.hid (HB5.out.grown hg6 (Nat.le_trans hB HB5.out.size) (fun k hk => by cases hk; exact HR.out.ge b rfl)); clear h6 hg6 hs6)
        go_ret
        refine ⟨_, rfl, ?_, HB6.out⟩
        have hz := H6.out
        rw [ins_room hil x HYL.out] at hz
        show Sl _ _ _ _ _ _ _
        rw [show (l.take i ++ x :: l.drop i).length = l.length + 1 by simp; omega]
        exact hz
set_option maxHeartbeats 16000000 in
theorem in_Fl {l : List Fl} {v : Value} {B i vb : Nat} {w : World} (x : Fl) (hi : i ≤ l.length) (hlen : l.length ≤ 1000) (hB : B ≤ w.heap.size) (h : Rs w B v l) (hx : w.heap[vb]? = some (.cells (arr x) 50)) (hne : v.ownBlock ≠ some vb) :
    Calls Tryz.prog 135 #[v, .int .i64 i, .slice (some ⟨vb, 0, none⟩) 1 1] w fun e w' => ∃ v', e = .returned v' ∧ Rs w' B v' (l.take i ++ x :: l.drop i) ∧ Below B w w' := by
  have hv1 : Rs w 0 (.slice (some ⟨vb, 0, none⟩) 1 1) [x] := ⟨by rw [enc_len], .inr ⟨vb, 0, 1, arr x, rfl, Nat.zero_le _, hx, Nat.le_refl _, by decide, by rw [arr_size]; omega, fun j u hu => by
    rw [enc_cons, enc_nil, List.append_nil] at hu
    simpa using hu⟩⟩
  have hm63 : maxLen = 9223372036854775807 := rfl
  by_cases hin : i = l.length
  · have HF : Hid (l.take i ++ x :: l.drop i = l ++ [x]) := Lib.hid (by rw [hin, List.take_length, List.drop_length])
    subst hin
    have HV := Lib.hid hv1
    have HR := Lib.hid h
    obtain ⟨A, cap, hv, hlc, hcap⟩ := h.any
    subst hv
    clear h hv1 hx hi
    have e1 : ((1 : Int) == 0) = false := by decide
    have e2 : ((l.length : Int) == (l.length : Int)) = true := by simp
    cases A with
    | none =>
      obtain ⟨hl0, _, rfl⟩ := HR.out.nilled
      have hl00 : l.length = 0 := by rw [hl0]; rfl
      go_enter Tryz.func135, Tryz.ntmps135
      go_wp2_with (refine rw_append (α := Fl) rfl (.tmp 23) (.tmp 24) rfl rfl HR.out rfl HV.out (by simp; omega) hB ?_; intro v' w' h1 h2 h3; have H1 := Lib.hid h1; have HB1 : Hid (Below B w w') := Lib.hid ((Below.refl B w).grown h2 hB (fun j hj => HR.out.ge j hj)); clear h1 h2 h3)
      go_ret
      exact ⟨v', rfl, by rw [HF.out]; exact H1.out, HB1.out⟩
    | some ad =>
      obtain ⟨b, off, sp⟩ := ad
      by_cases hcn : cap = l.length
      · go_enter Tryz.func135, Tryz.ntmps135
        go_wp2_with (refine rw_append (α := Fl) rfl (.tmp 23) (.tmp 24) rfl rfl HR.out rfl HV.out (by simp; omega) hB ?_; intro v' w' h1 h2 h3; have H1 := Lib.hid h1; have HB1 : Hid (Below B w w') := Lib.hid ((Below.refl B w).grown h2 hB (fun j hj => HR.out.ge j hj)); clear h1 h2 h3)
        go_ret
        exact ⟨v', rfl, by rw [HF.out]; exact H1.out, HB1.out⟩
      · go_enter Tryz.func135, Tryz.ntmps135
        go_wp2_with (refine rw_append (α := Fl) rfl (.tmp 23) (.tmp 24) rfl rfl HR.out rfl HV.out (by simp; omega) hB ?_; intro v' w' h1 h2 h3; have H1 := Lib.hid h1; have HB1 : Hid (Below B w w') := Lib.hid ((Below.refl B w).grown h2 hB (fun j hj => HR.out.ge j hj)); clear h1 h2 h3)
        go_ret
        exact ⟨v', rfl, by rw [HF.out]; exact H1.out, HB1.out⟩
  · have hil : i < l.length := by omega
    obtain ⟨b, off, cap, hv, hlc, hcap⟩ := h.shape (by omega)
    subst hv
    have hbv : b ≠ vb := by simpa [Value.ownBlock] using hne
    have HV := Lib.hid hv1
    have HR := Lib.hid h
    have HX := Lib.hid hx
    have e1 : ((1 : Int) == 0) = false := by decide
    have e2 : ((i : Int) == (l.length : Int)) = false := by simp; omega
    clear h hv1 hx hne hin hi
    by_cases hroom : cap < l.length + 1
    · obtain ⟨W', c2, ys, hrun, hmade, hbw⟩ := made_rs HR.out hil hlen hroom
      have HRUN := Lib.hid hrun
      have HM := Lib.hid hmade
      have HBW := Lib.hid hbw
      have HVW := Lib.hid ((Sl.news (HV.out.below hbw)).2 _ rfl)
      have HYL : Hid (ys.length = (l.length + 1 - i) * n Fl) := Lib.hid (by
        have h1 := hmade.1
        rw [List.length_append, enc_len, List.length_take, Nat.min_eq_left (by omega)] at h1
        have e5 : i * n Fl + (l.length + 1 - i) * n Fl = (l.length + 1) * n Fl := by rw [← Nat.add_mul]; congr 1; omega
        omega)
      have hc2 : l.length + 1 ≤ c2 := by
        rcases hmade.2 with ⟨h0, _⟩ | ⟨_, _, _, _, he, _, _, h1, _⟩
        · cases h0
        · cases he; exact h1
      have hc3 : ¬ c2 = i := by omega
      have hc4 : ¬ c2 = i + 1 := by omega
      clear hrun hmade hbw
      have hcl : cap = l.length := by omega
      subst hcl
      go_enter Tryz.func135, Tryz.ntmps135
      go_wp2_with (first
        | (at_builtin; refine Lib.wpList_append_run _ rfl (.tmp 34) (.tmp 39) 26 3 rfl (.slice (some ⟨b, off, none⟩) i l.length) (.int .i64 ((l.length + 1 - i : Nat) : Int)) rfl (by show Value.int IntKind.i64 ((l.length : Int) + 1 - (i : Int)) = _; congr 1; omega) _ _ (HRUN.out _) ?_)
        | (refine rw_copy (α := Fl) rfl (.tmp 43) (.tmp 44) rfl HM.out (k := i) [x] ⟨vb, 0, none⟩ 1 1 (c2 - i) (by simp; omega) (by show min 1 (l.length + 1 - i) = 1; omega) HVW.out (by first | rfl | (rw [Nat.zero_add]; rfl)) rfl ?_; intro w3 h3 hg3 hs3; have H3 := Lib.hid h3; have HB3 := Lib.hid (HBW.out.grown hg3 HBW.out.size (fun k hk => by cases hk; exact Nat.le_refl _)); clear h3 hg3 hs3))
      have HSRC := Lib.hid ((Sl.news (HR.out.below HB3.out)).2 _ rfl)
      refine wp_region_flow2_lit [(0, false), (1, false), (2, false), (3, false), (4, false), (5, false), (6, false), (7, false), (8, true)] (fun wS => Below w.heap.size w wS) (by kernel_rfl) (by kernel_rfl) (by kernel_rfl) HB3.out.drew ?_
      have HW1 : Hid (IntKind.i64.wrap ((i : Int) + 1) = (i : Int) + 1) := Lib.hid (by rw [IntKind.wrap_i64]; omega)
      repeat (first | (refine' flow2_pass (o := _) rfl _ _; (focus rfl); simp only [Act.put, List.setIfInBounds_toArray, List.set_cons_zero, List.set_cons_succ]) | (refine' flow2_take (v := _) (o := _) rfl _ _ _; rotate_left; (focus rfl); (focus (intro wS hS; have hE := Ext.refl wS; (have hw1 := HW1.out; have htn : ((i : Int) + 1).toNat = i + 1 := (by omega); have hb1 : (0 : Int) ≤ (i : Int) + 1 := (by omega); have hb2 : (i : Int) + 1 ≤ (l.length : Int) + 1 := (by omega); have hb3 : i ≤ l.length := (by omega); have hb4 : ¬ l.length = i := (by omega)); go_simp; try (with_reducible (first | exact ⟨rfl, hS, hE⟩ | rfl)); done)); simp only [Act.put, List.setIfInBounds_toArray, List.set_cons_zero, List.set_cons_succ]))
      refine flow2_turn (o := _) rfl rfl ?_
      intro wT hE hS K hK
      have hE3 : Below w3.heap.size w3 wT := (Below.refl w3.heap.size w3).drew.trans hE
      have HH := Lib.hid (H3.out.below hE3)
      have HST := Lib.hid hS
      refine turn_copy (α := Fl) (.tmp 50) (.tmp 53) rfl HH.out (k := i + 1) (l.drop i) ⟨b, off + i * n Fl, none⟩ (l.length - i) (l.length - i) (c2 - (i + 1)) (by rw [List.length_drop]; omega) (by rw [List.length_drop]; show min (l.length - i) (l.length + 1 - (i + 1)) = l.length - i; omega) (fun j u hu => ?_) (by first | rfl | (rw [Nat.zero_add]; rfl) | (rw [Nat.zero_add, Nat.add_sub_add_right]; rfl)) rfl ?_
      · rw [enc_drop, List.getElem?_drop] at hu
        have := (Sl.news (HR.out.below (HB3.out.trans (hE3.mono HB3.out.size)))).2 _ rfl _ u hu
        rw [addr_add] at this
        rw [addr_add, Nat.add_assoc]
        exact this
      · intro w4 h4 hg4 hs4
        refine hK _ _ (HST.out.grown hg4 HST.out.size (fun k hk => by cases hk; exact Nat.le_refl _)) ?_
        have H4 := Lib.hid h4
        clear hK K h4 hg4 hs4 HST
        simp only [Act.put, List.setIfInBounds_toArray, List.set_cons_zero, List.set_cons_succ]
        refine flow2_nil ?_
        intro w5 hE5 hS5
        have H5 := Lib.hid (H4.out.below hE5)
        have HB5 := Lib.hid hS5
        clear hE5 hS5
        go_wp2_with fail
        go_ret
        refine ⟨_, rfl, ?_, HB5.out.mono hB⟩
        have hz := H5.out.mono hB
        rw [ins_grow hil x HYL.out] at hz
        show Sl _ _ _ _ _ _ _
        rw [show (l.take i ++ x :: l.drop i).length = l.length + 1 by simp; omega]
        exact hz
    · obtain ⟨ys, hyl, hout⟩ := Sl.out HR.out (k := l.length + 1) (by omega) (by omega)
      have HO := Lib.hid hout
      have HYL := Lib.hid hyl
      have hrc : l.length + 1 ≤ cap := by omega
      have hc3 : ¬ cap = i := by omega
      have hc4 : ¬ cap = i + 1 := by omega
      obtain ⟨cur, hcur⟩ : ∃ cur, w.heap[b]? = some (.cells cur (RowT.T Fl)) := by
        rcases hout.2 with ⟨h0, _⟩ | ⟨_, _, _, cur, he, _, hg, _⟩
        · cases h0
        · cases he; exact ⟨cur, hg⟩
      have hcs : cur.size ≠ 0 := by
        rcases hout.2 with ⟨h0, _⟩ | ⟨_, _, _, cur', he, _, hg, _, _, h3, _⟩
        · cases h0
        · cases he
          rw [hcur] at hg
          cases hg
          have e1 : 1 * n Fl ≤ cap * n Fl := Nat.mul_le_mul_right _ (by omega)
          have e2 : n Fl = 11 := rfl
          omega
      have hov : ∀ lb cb, (callFunc 159 #[.slice (some ⟨vb, 0, none⟩) 1 1, .slice (some ⟨b, off + (i + 1) * 11, none⟩) lb cb]).run Tryz.prog w = .ok (.value (.bool false)) w := fun lb cb => by
        rw [run_callFunc_extern Tryz.func159 (by kernel_rfl) (by kernel_rfl) (by kernel_rfl) (e := Extern.SlicesOverlaps.overlaps #[26, 26] #[4]) (by kernel_rfl),
          Lib.run_overlaps_apart w 26 4 50 Tryz.underlying26 11 Tryz.sizeOf50 ⟨vb, 0, none⟩ ⟨b, off + (i + 1) * 11, none⟩ 1 1 lb cb (fun h => hbv h.symm) 50 50 (arr x).size cur.size (shape_cells HX.out) (shape_cells hcur) hcs (row_froz HX.out _) (row_froz HX.out _)]
        rfl
      clear hyl hout hcur hcs cur
      go_enter Tryz.func135, Tryz.ntmps135
      go_wp2_with (simp only [hov])
      refine wp_region_flow2_lit [(0, false), (1, false), (2, false), (3, false), (4, false), (5, false), (6, false), (7, false), (8, true)] (fun wS => Below B w wS ∧ wS.heap[vb]? = some (.cells (arr x) 50)) (by kernel_rfl) (by kernel_rfl) (by kernel_rfl) ⟨(Below.refl B w).drew, HX.out⟩ ?_
      have HW1 : Hid (IntKind.i64.wrap ((i : Int) + 1) = (i : Int) + 1) := Lib.hid (by rw [IntKind.wrap_i64]; omega)
      repeat (first | (refine' flow2_pass (o := _) rfl _ _; (focus rfl); simp only [Act.put, List.setIfInBounds_toArray, List.set_cons_zero, List.set_cons_succ]) | (refine' flow2_take (v := _) (o := _) rfl _ _ _; rotate_left; (focus rfl); (focus (intro wS hS; have hE := Ext.refl wS; (have hw1 := HW1.out; have htn : ((i : Int) + 1).toNat = i + 1 := (by omega); have hb1 : (0 : Int) ≤ (i : Int) + 1 := (by omega); have hb2 : (i : Int) + 1 ≤ (l.length : Int) + 1 := (by omega); have hb3 : i ≤ l.length + 1 := (by omega); have hb4 : (i : Int) ≤ (l.length : Int) + 1 := (by omega)); go_simp; try (with_reducible (first | exact ⟨rfl, hS, hE⟩ | rfl)); done)); simp only [Act.put, List.setIfInBounds_toArray, List.set_cons_zero, List.set_cons_succ]))
      refine flow2_turn (o := _) rfl rfl ?_
      intro wT hE hS K hK
      have hE3 : Below w.heap.size w wT := (Below.refl w.heap.size w).drew.trans hE
      have HH := Lib.hid (HO.out.below hE3)
      have HST := Lib.hid hS
      refine turn_copy (α := Fl) (.tmp 73) (.tmp 76) rfl HH.out (k := i + 1) (l.drop i) ⟨b, off + i * n Fl, none⟩ (l.length + 1 - i) (cap - i) (cap - (i + 1)) (by rw [List.length_drop]; omega) (by rw [List.length_drop]; show min (l.length + 1 - i) (l.length + 1 - (i + 1)) = l.length - i; omega) (fun j u hu => ?_) (by first | rfl | (rw [Nat.add_sub_add_right]; rfl)) rfl ?_
      · rw [enc_drop, List.getElem?_drop] at hu
        have := (Sl.news (HR.out.below hE3)).2 _ rfl _ u hu
        rw [addr_add] at this
        rw [addr_add, Nat.add_assoc]
        exact this
      · intro w4 h4 hg4 hs4
        have hvb4 := (hg4.block vb (heap_lt HST.out.2) (by simpa using fun h => hbv h.symm)).trans HST.out.2
        refine hK _ _ ⟨HST.out.1.grown hg4 (Nat.le_trans hB HST.out.1.size) (fun k hk => by cases hk; exact HR.out.ge b rfl), hvb4⟩ ?_
        have H4 := Lib.hid h4
        clear hK K h4 hg4 hs4 HST hvb4
        simp only [Act.put, List.setIfInBounds_toArray, List.set_cons_zero, List.set_cons_succ]
        refine flow2_nil ?_
        intro w5 hE5 hS5
        have H5 := Lib.hid (H4.out.below hE5)
        have HB5 := Lib.hid hS5.1
        have HV5 := Lib.hid (range_row hS5.2)
        clear hE5 hS5
        go_wp2_with (refine rw_copy (α := Fl) rfl (.tmp 80) (.tmp 81) rfl H5.out (k := i) [x] ⟨vb, 0, none⟩ 1 1 (cap - i) (by simp; omega) (by show min 1 (l.length + 1 - i) = 1; omega) (fun j u hu => by rw [addr_add]; exact HV5.out j u (by rwa [enc_cons, enc_nil, List.append_nil] at hu)) rfl rfl ?_; intro w6 h6 hg6 hs6; have H6 := Lib.hid h6; have HB6 := Lib.hid (HB5.out.grown hg6 (Nat.le_trans hB HB5.out.size) (fun k hk => by cases hk; exact HR.out.ge b rfl)); clear h6 hg6 hs6)
        go_ret
        refine ⟨_, rfl, ?_, HB6.out⟩
        have hz := H6.out
        rw [ins_room hil x HYL.out] at hz
        show Sl _ _ _ _ _ _ _
        rw [show (l.take i ++ x :: l.drop i).length = l.length + 1 by simp; omega]
        exact hz
set_option maxHeartbeats 16000000 in
theorem in_Nm {l : List Nm} {v : Value} {B i vb : Nat} {w : World} (x : Nm) (hi : i ≤ l.length) (hlen : l.length ≤ 1000) (hB : B ≤ w.heap.size) (h : Rs w B v l) (hx : w.heap[vb]? = some (.cells (arr x) 54)) (hne : v.ownBlock ≠ some vb) :
    Calls Tryz.prog 139 #[v, .int .i64 i, .slice (some ⟨vb, 0, none⟩) 1 1] w fun e w' => ∃ v', e = .returned v' ∧ Rs w' B v' (l.take i ++ x :: l.drop i) ∧ Below B w w' := by
  have hv1 : Rs w 0 (.slice (some ⟨vb, 0, none⟩) 1 1) [x] := ⟨by rw [enc_len], .inr ⟨vb, 0, 1, arr x, rfl, Nat.zero_le _, hx, Nat.le_refl _, by decide, by rw [arr_size]; omega, fun j u hu => by
    rw [enc_cons, enc_nil, List.append_nil] at hu
    simpa using hu⟩⟩
  have hm63 : maxLen = 9223372036854775807 := rfl
  by_cases hin : i = l.length
  · have HF : Hid (l.take i ++ x :: l.drop i = l ++ [x]) := Lib.hid (by rw [hin, List.take_length, List.drop_length])
    subst hin
    have HV := Lib.hid hv1
    have HR := Lib.hid h
    obtain ⟨A, cap, hv, hlc, hcap⟩ := h.any
    subst hv
    clear h hv1 hx hi
    have e1 : ((1 : Int) == 0) = false := by decide
    have e2 : ((l.length : Int) == (l.length : Int)) = true := by simp
    cases A with
    | none =>
      obtain ⟨hl0, _, rfl⟩ := HR.out.nilled
      have hl00 : l.length = 0 := by rw [hl0]; rfl
      go_enter Tryz.func139, Tryz.ntmps139
      go_wp2_with (refine rw_append (α := Nm) rfl (.tmp 23) (.tmp 24) rfl rfl HR.out rfl HV.out (by simp; omega) hB ?_; intro v' w' h1 h2 h3; have H1 := Lib.hid h1; have HB1 : Hid (Below B w w') := Lib.hid ((Below.refl B w).grown h2 hB (fun j hj => HR.out.ge j hj)); clear h1 h2 h3)
      go_ret
      exact ⟨v', rfl, by rw [HF.out]; exact H1.out, HB1.out⟩
    | some ad =>
      obtain ⟨b, off, sp⟩ := ad
      by_cases hcn : cap = l.length
      · go_enter Tryz.func139, Tryz.ntmps139
        go_wp2_with (refine rw_append (α := Nm) rfl (.tmp 23) (.tmp 24) rfl rfl HR.out rfl HV.out (by simp; omega) hB ?_; intro v' w' h1 h2 h3; have H1 := Lib.hid h1; have HB1 : Hid (Below B w w') := Lib.hid ((Below.refl B w).grown h2 hB (fun j hj => HR.out.ge j hj)); clear h1 h2 h3)
        go_ret
        exact ⟨v', rfl, by rw [HF.out]; exact H1.out, HB1.out⟩
      · go_enter Tryz.func139, Tryz.ntmps139
        go_wp2_with (refine rw_append (α := Nm) rfl (.tmp 23) (.tmp 24) rfl rfl HR.out rfl HV.out (by simp; omega) hB ?_; intro v' w' h1 h2 h3; have H1 := Lib.hid h1; have HB1 : Hid (Below B w w') := Lib.hid ((Below.refl B w).grown h2 hB (fun j hj => HR.out.ge j hj)); clear h1 h2 h3)
        go_ret
        exact ⟨v', rfl, by rw [HF.out]; exact H1.out, HB1.out⟩
  · have hil : i < l.length := by omega
    obtain ⟨b, off, cap, hv, hlc, hcap⟩ := h.shape (by omega)
    subst hv
    have hbv : b ≠ vb := by simpa [Value.ownBlock] using hne
    have HV := Lib.hid hv1
    have HR := Lib.hid h
    have HX := Lib.hid hx
    have e1 : ((1 : Int) == 0) = false := by decide
    have e2 : ((i : Int) == (l.length : Int)) = false := by simp; omega
    clear h hv1 hx hne hin hi
    by_cases hroom : cap < l.length + 1
    · obtain ⟨W', c2, ys, hrun, hmade, hbw⟩ := made_rs HR.out hil hlen hroom
      have HRUN := Lib.hid hrun
      have HM := Lib.hid hmade
      have HBW := Lib.hid hbw
      have HVW := Lib.hid ((Sl.news (HV.out.below hbw)).2 _ rfl)
      have HYL : Hid (ys.length = (l.length + 1 - i) * n Nm) := Lib.hid (by
        have h1 := hmade.1
        rw [List.length_append, enc_len, List.length_take, Nat.min_eq_left (by omega)] at h1
        have e5 : i * n Nm + (l.length + 1 - i) * n Nm = (l.length + 1) * n Nm := by rw [← Nat.add_mul]; congr 1; omega
        omega)
      have hc2 : l.length + 1 ≤ c2 := by
        rcases hmade.2 with ⟨h0, _⟩ | ⟨_, _, _, _, he, _, _, h1, _⟩
        · cases h0
        · cases he; exact h1
      have hc3 : ¬ c2 = i := by omega
      have hc4 : ¬ c2 = i + 1 := by omega
      clear hrun hmade hbw
      have hcl : cap = l.length := by omega
      subst hcl
      go_enter Tryz.func139, Tryz.ntmps139
      go_wp2_with (first
        | (at_builtin; refine Lib.wpList_append_run _ rfl (.tmp 34) (.tmp 39) 27 3 rfl (.slice (some ⟨b, off, none⟩) i l.length) (.int .i64 ((l.length + 1 - i : Nat) : Int)) rfl (by show Value.int IntKind.i64 ((l.length : Int) + 1 - (i : Int)) = _; congr 1; omega) _ _ (HRUN.out _) ?_)
        | (refine rw_copy (α := Nm) rfl (.tmp 43) (.tmp 44) rfl HM.out (k := i) [x] ⟨vb, 0, none⟩ 1 1 (c2 - i) (by simp; omega) (by show min 1 (l.length + 1 - i) = 1; omega) HVW.out (by first | rfl | (rw [Nat.zero_add]; rfl)) rfl ?_; intro w3 h3 hg3 hs3; have H3 := Lib.hid h3; have HB3 := Lib.hid (HBW.out.grown hg3 HBW.out.size (fun k hk => by cases hk; exact Nat.le_refl _)); clear h3 hg3 hs3))
      have HSRC := Lib.hid ((Sl.news (HR.out.below HB3.out)).2 _ rfl)
      refine wp_region_flow2_lit [(0, false), (1, false), (2, false), (3, false), (4, false), (5, false), (6, false), (7, false), (8, true)] (fun wS => Below w.heap.size w wS) (by kernel_rfl) (by kernel_rfl) (by kernel_rfl) HB3.out.drew ?_
      have HW1 : Hid (IntKind.i64.wrap ((i : Int) + 1) = (i : Int) + 1) := Lib.hid (by rw [IntKind.wrap_i64]; omega)
      repeat (first | (refine' flow2_pass (o := _) rfl _ _; (focus rfl); simp only [Act.put, List.setIfInBounds_toArray, List.set_cons_zero, List.set_cons_succ]) | (refine' flow2_take (v := _) (o := _) rfl _ _ _; rotate_left; (focus rfl); (focus (intro wS hS; have hE := Ext.refl wS; (have hw1 := HW1.out; have htn : ((i : Int) + 1).toNat = i + 1 := (by omega); have hb1 : (0 : Int) ≤ (i : Int) + 1 := (by omega); have hb2 : (i : Int) + 1 ≤ (l.length : Int) + 1 := (by omega); have hb3 : i ≤ l.length := (by omega); have hb4 : ¬ l.length = i := (by omega)); go_simp; try (with_reducible (first | exact ⟨rfl, hS, hE⟩ | rfl)); done)); simp only [Act.put, List.setIfInBounds_toArray, List.set_cons_zero, List.set_cons_succ]))
      refine flow2_turn (o := _) rfl rfl ?_
      intro wT hE hS K hK
      have hE3 : Below w3.heap.size w3 wT := (Below.refl w3.heap.size w3).drew.trans hE
      have HH := Lib.hid (H3.out.below hE3)
      have HST := Lib.hid hS
      refine turn_copy (α := Nm) (.tmp 50) (.tmp 53) rfl HH.out (k := i + 1) (l.drop i) ⟨b, off + i * n Nm, none⟩ (l.length - i) (l.length - i) (c2 - (i + 1)) (by rw [List.length_drop]; omega) (by rw [List.length_drop]; show min (l.length - i) (l.length + 1 - (i + 1)) = l.length - i; omega) (fun j u hu => ?_) (by first | rfl | (rw [Nat.zero_add]; rfl) | (rw [Nat.zero_add, Nat.add_sub_add_right]; rfl)) rfl ?_
      · rw [enc_drop, List.getElem?_drop] at hu
        have := (Sl.news (HR.out.below (HB3.out.trans (hE3.mono HB3.out.size)))).2 _ rfl _ u hu
        rw [addr_add] at this
        rw [addr_add, Nat.add_assoc]
        exact this
      · intro w4 h4 hg4 hs4
        refine hK _ _ (HST.out.grown hg4 HST.out.size (fun k hk => by cases hk; exact Nat.le_refl _)) ?_
        have H4 := Lib.hid h4
        clear hK K h4 hg4 hs4 HST
        simp only [Act.put, List.setIfInBounds_toArray, List.set_cons_zero, List.set_cons_succ]
        refine flow2_nil ?_
        intro w5 hE5 hS5
        have H5 := Lib.hid (H4.out.below hE5)
        have HB5 := Lib.hid hS5
        clear hE5 hS5
        go_wp2_with fail
        go_ret
        refine ⟨_, rfl, ?_, HB5.out.mono hB⟩
        have hz := H5.out.mono hB
        rw [ins_grow hil x HYL.out] at hz
        show Sl _ _ _ _ _ _ _
        rw [show (l.take i ++ x :: l.drop i).length = l.length + 1 by simp; omega]
        exact hz
    · obtain ⟨ys, hyl, hout⟩ := Sl.out HR.out (k := l.length + 1) (by omega) (by omega)
      have HO := Lib.hid hout
      have HYL := Lib.hid hyl
      have hrc : l.length + 1 ≤ cap := by omega
      have hc3 : ¬ cap = i := by omega
      have hc4 : ¬ cap = i + 1 := by omega
      obtain ⟨cur, hcur⟩ : ∃ cur, w.heap[b]? = some (.cells cur (RowT.T Nm)) := by
        rcases hout.2 with ⟨h0, _⟩ | ⟨_, _, _, cur, he, _, hg, _⟩
        · cases h0
        · cases he; exact ⟨cur, hg⟩
      have hcs : cur.size ≠ 0 := by
        rcases hout.2 with ⟨h0, _⟩ | ⟨_, _, _, cur', he, _, hg, _, _, h3, _⟩
        · cases h0
        · cases he
          rw [hcur] at hg
          cases hg
          have e1 : 1 * n Nm ≤ cap * n Nm := Nat.mul_le_mul_right _ (by omega)
          have e2 : n Nm = 3 := rfl
          omega
      have hov : ∀ lb cb, (callFunc 162 #[.slice (some ⟨vb, 0, none⟩) 1 1, .slice (some ⟨b, off + (i + 1) * 3, none⟩) lb cb]).run Tryz.prog w = .ok (.value (.bool false)) w := fun lb cb => by
        rw [run_callFunc_extern Tryz.func162 (by kernel_rfl) (by kernel_rfl) (by kernel_rfl) (e := Extern.SlicesOverlaps.overlaps #[27, 27] #[4]) (by kernel_rfl),
          Lib.run_overlaps_apart w 27 4 54 Tryz.underlying27 3 Tryz.sizeOf54 ⟨vb, 0, none⟩ ⟨b, off + (i + 1) * 3, none⟩ 1 1 lb cb (fun h => hbv h.symm) 54 54 (arr x).size cur.size (shape_cells HX.out) (shape_cells hcur) hcs (row_froz HX.out _) (row_froz HX.out _)]
        rfl
      clear hyl hout hcur hcs cur
      go_enter Tryz.func139, Tryz.ntmps139
      go_wp2_with (simp only [hov])
      refine wp_region_flow2_lit [(0, false), (1, false), (2, false), (3, false), (4, false), (5, false), (6, false), (7, false), (8, true)] (fun wS => Below B w wS ∧ wS.heap[vb]? = some (.cells (arr x) 54)) (by kernel_rfl) (by kernel_rfl) (by kernel_rfl) ⟨(Below.refl B w).drew, HX.out⟩ ?_
      have HW1 : Hid (IntKind.i64.wrap ((i : Int) + 1) = (i : Int) + 1) := Lib.hid (by rw [IntKind.wrap_i64]; omega)
      repeat (first | (refine' flow2_pass (o := _) rfl _ _; (focus rfl); simp only [Act.put, List.setIfInBounds_toArray, List.set_cons_zero, List.set_cons_succ]) | (refine' flow2_take (v := _) (o := _) rfl _ _ _; rotate_left; (focus rfl); (focus (intro wS hS; have hE := Ext.refl wS; (have hw1 := HW1.out; have htn : ((i : Int) + 1).toNat = i + 1 := (by omega); have hb1 : (0 : Int) ≤ (i : Int) + 1 := (by omega); have hb2 : (i : Int) + 1 ≤ (l.length : Int) + 1 := (by omega); have hb3 : i ≤ l.length + 1 := (by omega); have hb4 : (i : Int) ≤ (l.length : Int) + 1 := (by omega)); go_simp; try (with_reducible (first | exact ⟨rfl, hS, hE⟩ | rfl)); done)); simp only [Act.put, List.setIfInBounds_toArray, List.set_cons_zero, List.set_cons_succ]))
      refine flow2_turn (o := _) rfl rfl ?_
      intro wT hE hS K hK
      have hE3 : Below w.heap.size w wT := (Below.refl w.heap.size w).drew.trans hE
      have HH := Lib.hid (HO.out.below hE3)
      have HST := Lib.hid hS
      refine turn_copy (α := Nm) (.tmp 73) (.tmp 76) rfl HH.out (k := i + 1) (l.drop i) ⟨b, off + i * n Nm, none⟩ (l.length + 1 - i) (cap - i) (cap - (i + 1)) (by rw [List.length_drop]; omega) (by rw [List.length_drop]; show min (l.length + 1 - i) (l.length + 1 - (i + 1)) = l.length - i; omega) (fun j u hu => ?_) (by first | rfl | (rw [Nat.add_sub_add_right]; rfl)) rfl ?_
      · rw [enc_drop, List.getElem?_drop] at hu
        have := (Sl.news (HR.out.below hE3)).2 _ rfl _ u hu
        rw [addr_add] at this
        rw [addr_add, Nat.add_assoc]
        exact this
      · intro w4 h4 hg4 hs4
        have hvb4 := (hg4.block vb (heap_lt HST.out.2) (by simpa using fun h => hbv h.symm)).trans HST.out.2
        refine hK _ _ ⟨HST.out.1.grown hg4 (Nat.le_trans hB HST.out.1.size) (fun k hk => by cases hk; exact HR.out.ge b rfl), hvb4⟩ ?_
        have H4 := Lib.hid h4
        clear hK K h4 hg4 hs4 HST hvb4
        simp only [Act.put, List.setIfInBounds_toArray, List.set_cons_zero, List.set_cons_succ]
        refine flow2_nil ?_
        intro w5 hE5 hS5
        have H5 := Lib.hid (H4.out.below hE5)
        have HB5 := Lib.hid hS5.1
        have HV5 := Lib.hid (range_row hS5.2)
        clear hE5 hS5
        go_wp2_with (refine rw_copy (α := Nm) rfl (.tmp 80) (.tmp 81) rfl H5.out (k := i) [x] ⟨vb, 0, none⟩ 1 1 (cap - i) (by simp; omega) (by show min 1 (l.length + 1 - i) = 1; omega) (fun j u hu => by rw [addr_add]; exact HV5.out j u (by rwa [enc_cons, enc_nil, List.append_nil] at hu)) rfl rfl ?_; intro w6 h6 hg6 hs6; have H6 := Lib.hid h6; have HB6 := Lib.hid (HB5.out.grown hg6 (Nat.le_trans hB HB5.out.size) (fun k hk => by cases hk; exact HR.out.ge b rfl)); clear h6 hg6 hs6)
        go_ret
        refine ⟨_, rfl, ?_, HB6.out⟩
        have hz := H6.out
        rw [ins_room hil x HYL.out] at hz
        show Sl _ _ _ _ _ _ _
        rw [show (l.take i ++ x :: l.drop i).length = l.length + 1 by simp; omega]
        exact hz
set_option maxHeartbeats 16000000 in
theorem in_Bl {l : List Bl} {v : Value} {B i vb : Nat} {w : World} (x : Bl) (hi : i ≤ l.length) (hlen : l.length ≤ 1000) (hB : B ≤ w.heap.size) (h : Rs w B v l) (hx : w.heap[vb]? = some (.cells (arr x) 59)) (hne : v.ownBlock ≠ some vb) :
    Calls Tryz.prog 132 #[v, .int .i64 i, .slice (some ⟨vb, 0, none⟩) 1 1] w fun e w' => ∃ v', e = .returned v' ∧ Rs w' B v' (l.take i ++ x :: l.drop i) ∧ Below B w w' := by
  have hv1 : Rs w 0 (.slice (some ⟨vb, 0, none⟩) 1 1) [x] := ⟨by rw [enc_len], .inr ⟨vb, 0, 1, arr x, rfl, Nat.zero_le _, hx, Nat.le_refl _, by decide, by rw [arr_size]; omega, fun j u hu => by
    rw [enc_cons, enc_nil, List.append_nil] at hu
    simpa using hu⟩⟩
  have hm63 : maxLen = 9223372036854775807 := rfl
  by_cases hin : i = l.length
  · have HF : Hid (l.take i ++ x :: l.drop i = l ++ [x]) := Lib.hid (by rw [hin, List.take_length, List.drop_length])
    subst hin
    have HV := Lib.hid hv1
    have HR := Lib.hid h
    obtain ⟨A, cap, hv, hlc, hcap⟩ := h.any
    subst hv
    clear h hv1 hx hi
    have e1 : ((1 : Int) == 0) = false := by decide
    have e2 : ((l.length : Int) == (l.length : Int)) = true := by simp
    cases A with
    | none =>
      obtain ⟨hl0, _, rfl⟩ := HR.out.nilled
      have hl00 : l.length = 0 := by rw [hl0]; rfl
      go_enter Tryz.func132, Tryz.ntmps132
      go_wp2_with (refine rw_append (α := Bl) rfl (.tmp 23) (.tmp 24) rfl rfl HR.out rfl HV.out (by simp; omega) hB ?_; intro v' w' h1 h2 h3; have H1 := Lib.hid h1; have HB1 : Hid (Below B w w') := Lib.hid ((Below.refl B w).grown h2 hB (fun j hj => HR.out.ge j hj)); clear h1 h2 h3)
      go_ret
      exact ⟨v', rfl, by rw [HF.out]; exact H1.out, HB1.out⟩
    | some ad =>
      obtain ⟨b, off, sp⟩ := ad
      by_cases hcn : cap = l.length
      · go_enter Tryz.func132, Tryz.ntmps132
        go_wp2_with (refine rw_append (α := Bl) rfl (.tmp 23) (.tmp 24) rfl rfl HR.out rfl HV.out (by simp; omega) hB ?_; intro v' w' h1 h2 h3; have H1 := Lib.hid h1; have HB1 : Hid (Below B w w') := Lib.hid ((Below.refl B w).grown h2 hB (fun j hj => HR.out.ge j hj)); clear h1 h2 h3)
        go_ret
        exact ⟨v', rfl, by rw [HF.out]; exact H1.out, HB1.out⟩
      · go_enter Tryz.func132, Tryz.ntmps132
        go_wp2_with (refine rw_append (α := Bl) rfl (.tmp 23) (.tmp 24) rfl rfl HR.out rfl HV.out (by simp; omega) hB ?_; intro v' w' h1 h2 h3; have H1 := Lib.hid h1; have HB1 : Hid (Below B w w') := Lib.hid ((Below.refl B w).grown h2 hB (fun j hj => HR.out.ge j hj)); clear h1 h2 h3)
        go_ret
        exact ⟨v', rfl, by rw [HF.out]; exact H1.out, HB1.out⟩
  · have hil : i < l.length := by omega
    obtain ⟨b, off, cap, hv, hlc, hcap⟩ := h.shape (by omega)
    subst hv
    have hbv : b ≠ vb := by simpa [Value.ownBlock] using hne
    have HV := Lib.hid hv1
    have HR := Lib.hid h
    have HX := Lib.hid hx
    have e1 : ((1 : Int) == 0) = false := by decide
    have e2 : ((i : Int) == (l.length : Int)) = false := by simp; omega
    clear h hv1 hx hne hin hi
    by_cases hroom : cap < l.length + 1
    · obtain ⟨W', c2, ys, hrun, hmade, hbw⟩ := made_rs HR.out hil hlen hroom
      have HRUN := Lib.hid hrun
      have HM := Lib.hid hmade
      have HBW := Lib.hid hbw
      have HVW := Lib.hid ((Sl.news (HV.out.below hbw)).2 _ rfl)
      have HYL : Hid (ys.length = (l.length + 1 - i) * n Bl) := Lib.hid (by
        have h1 := hmade.1
        rw [List.length_append, enc_len, List.length_take, Nat.min_eq_left (by omega)] at h1
        have e5 : i * n Bl + (l.length + 1 - i) * n Bl = (l.length + 1) * n Bl := by rw [← Nat.add_mul]; congr 1; omega
        omega)
      have hc2 : l.length + 1 ≤ c2 := by
        rcases hmade.2 with ⟨h0, _⟩ | ⟨_, _, _, _, he, _, _, h1, _⟩
        · cases h0
        · cases he; exact h1
      have hc3 : ¬ c2 = i := by omega
      have hc4 : ¬ c2 = i + 1 := by omega
      clear hrun hmade hbw
      have hcl : cap = l.length := by omega
      subst hcl
      go_enter Tryz.func132, Tryz.ntmps132
      go_wp2_with (first
        | (at_builtin; refine Lib.wpList_append_run _ rfl (.tmp 34) (.tmp 39) 28 3 rfl (.slice (some ⟨b, off, none⟩) i l.length) (.int .i64 ((l.length + 1 - i : Nat) : Int)) rfl (by show Value.int IntKind.i64 ((l.length : Int) + 1 - (i : Int)) = _; congr 1; omega) _ _ (HRUN.out _) ?_)
        | (refine rw_copy (α := Bl) rfl (.tmp 43) (.tmp 44) rfl HM.out (k := i) [x] ⟨vb, 0, none⟩ 1 1 (c2 - i) (by simp; omega) (by show min 1 (l.length + 1 - i) = 1; omega) HVW.out (by first | rfl | (rw [Nat.zero_add]; rfl)) rfl ?_; intro w3 h3 hg3 hs3; have H3 := Lib.hid h3; have HB3 := Lib.hid (HBW.out.grown hg3 HBW.out.size (fun k hk => by cases hk; exact Nat.le_refl _)); clear h3 hg3 hs3))
      have HSRC := Lib.hid ((Sl.news (HR.out.below HB3.out)).2 _ rfl)
      refine wp_region_flow2_lit [(0, false), (1, false), (2, false), (3, false), (4, false), (5, false), (6, false), (7, false), (8, true)] (fun wS => Below w.heap.size w wS) (by kernel_rfl) (by kernel_rfl) (by kernel_rfl) HB3.out.drew ?_
      have HW1 : Hid (IntKind.i64.wrap ((i : Int) + 1) = (i : Int) + 1) := Lib.hid (by rw [IntKind.wrap_i64]; omega)
      repeat (first | (refine' flow2_pass (o := _) rfl _ _; (focus rfl); simp only [Act.put, List.setIfInBounds_toArray, List.set_cons_zero, List.set_cons_succ]) | (refine' flow2_take (v := _) (o := _) rfl _ _ _; rotate_left; (focus rfl); (focus (intro wS hS; have hE := Ext.refl wS; (have hw1 := HW1.out; have htn : ((i : Int) + 1).toNat = i + 1 := (by omega); have hb1 : (0 : Int) ≤ (i : Int) + 1 := (by omega); have hb2 : (i : Int) + 1 ≤ (l.length : Int) + 1 := (by omega); have hb3 : i ≤ l.length := (by omega); have hb4 : ¬ l.length = i := (by omega)); go_simp; try (with_reducible (first | exact ⟨rfl, hS, hE⟩ | rfl)); done)); simp only [Act.put, List.setIfInBounds_toArray, List.set_cons_zero, List.set_cons_succ]))
      refine flow2_turn (o := _) rfl rfl ?_
      intro wT hE hS K hK
      have hE3 : Below w3.heap.size w3 wT := (Below.refl w3.heap.size w3).drew.trans hE
      have HH := Lib.hid (H3.out.below hE3)
      have HST := Lib.hid hS
      refine turn_copy (α := Bl) (.tmp 50) (.tmp 53) rfl HH.out (k := i + 1) (l.drop i) ⟨b, off + i * n Bl, none⟩ (l.length - i) (l.length - i) (c2 - (i + 1)) (by rw [List.length_drop]; omega) (by rw [List.length_drop]; show min (l.length - i) (l.length + 1 - (i + 1)) = l.length - i; omega) (fun j u hu => ?_) (by first | rfl | (rw [Nat.zero_add]; rfl) | (rw [Nat.zero_add, Nat.add_sub_add_right]; rfl)) rfl ?_
      · rw [enc_drop, List.getElem?_drop] at hu
        have := (Sl.news (HR.out.below (HB3.out.trans (hE3.mono HB3.out.size)))).2 _ rfl _ u hu
        rw [addr_add] at this
        rw [addr_add, Nat.add_assoc]
        exact this
      · intro w4 h4 hg4 hs4
        refine hK _ _ (HST.out.grown hg4 HST.out.size (fun k hk => by cases hk; exact Nat.le_refl _)) ?_
        have H4 := Lib.hid h4
        clear hK K h4 hg4 hs4 HST
        simp only [Act.put, List.setIfInBounds_toArray, List.set_cons_zero, List.set_cons_succ]
        refine flow2_nil ?_
        intro w5 hE5 hS5
        have H5 := Lib.hid (H4.out.below hE5)
        have HB5 := Lib.hid hS5
        clear hE5 hS5
        go_wp2_with fail
        go_ret
        refine ⟨_, rfl, ?_, HB5.out.mono hB⟩
        have hz := H5.out.mono hB
        rw [ins_grow hil x HYL.out] at hz
        show Sl _ _ _ _ _ _ _
        rw [show (l.take i ++ x :: l.drop i).length = l.length + 1 by simp; omega]
        exact hz
    · obtain ⟨ys, hyl, hout⟩ := Sl.out HR.out (k := l.length + 1) (by omega) (by omega)
      have HO := Lib.hid hout
      have HYL := Lib.hid hyl
      have hrc : l.length + 1 ≤ cap := by omega
      have hc3 : ¬ cap = i := by omega
      have hc4 : ¬ cap = i + 1 := by omega
      obtain ⟨cur, hcur⟩ : ∃ cur, w.heap[b]? = some (.cells cur (RowT.T Bl)) := by
        rcases hout.2 with ⟨h0, _⟩ | ⟨_, _, _, cur, he, _, hg, _⟩
        · cases h0
        · cases he; exact ⟨cur, hg⟩
      have hcs : cur.size ≠ 0 := by
        rcases hout.2 with ⟨h0, _⟩ | ⟨_, _, _, cur', he, _, hg, _, _, h3, _⟩
        · cases h0
        · cases he
          rw [hcur] at hg
          cases hg
          have e1 : 1 * n Bl ≤ cap * n Bl := Nat.mul_le_mul_right _ (by omega)
          have e2 : n Bl = 3 := rfl
          omega
      have hov : ∀ lb cb, (callFunc 154 #[.slice (some ⟨vb, 0, none⟩) 1 1, .slice (some ⟨b, off + (i + 1) * 3, none⟩) lb cb]).run Tryz.prog w = .ok (.value (.bool false)) w := fun lb cb => by
        rw [run_callFunc_extern Tryz.func154 (by kernel_rfl) (by kernel_rfl) (by kernel_rfl) (e := Extern.SlicesOverlaps.overlaps #[28, 28] #[4]) (by kernel_rfl),
          Lib.run_overlaps_apart w 28 4 59 Tryz.underlying28 3 Tryz.sizeOf59 ⟨vb, 0, none⟩ ⟨b, off + (i + 1) * 3, none⟩ 1 1 lb cb (fun h => hbv h.symm) 59 59 (arr x).size cur.size (shape_cells HX.out) (shape_cells hcur) hcs (row_froz HX.out _) (row_froz HX.out _)]
        rfl
      clear hyl hout hcur hcs cur
      go_enter Tryz.func132, Tryz.ntmps132
      go_wp2_with (simp only [hov])
      refine wp_region_flow2_lit [(0, false), (1, false), (2, false), (3, false), (4, false), (5, false), (6, false), (7, false), (8, true)] (fun wS => Below B w wS ∧ wS.heap[vb]? = some (.cells (arr x) 59)) (by kernel_rfl) (by kernel_rfl) (by kernel_rfl) ⟨(Below.refl B w).drew, HX.out⟩ ?_
      have HW1 : Hid (IntKind.i64.wrap ((i : Int) + 1) = (i : Int) + 1) := Lib.hid (by rw [IntKind.wrap_i64]; omega)
      repeat (first | (refine' flow2_pass (o := _) rfl _ _; (focus rfl); simp only [Act.put, List.setIfInBounds_toArray, List.set_cons_zero, List.set_cons_succ]) | (refine' flow2_take (v := _) (o := _) rfl _ _ _; rotate_left; (focus rfl); (focus (intro wS hS; have hE := Ext.refl wS; (have hw1 := HW1.out; have htn : ((i : Int) + 1).toNat = i + 1 := (by omega); have hb1 : (0 : Int) ≤ (i : Int) + 1 := (by omega); have hb2 : (i : Int) + 1 ≤ (l.length : Int) + 1 := (by omega); have hb3 : i ≤ l.length + 1 := (by omega); have hb4 : (i : Int) ≤ (l.length : Int) + 1 := (by omega)); go_simp; try (with_reducible (first | exact ⟨rfl, hS, hE⟩ | rfl)); done)); simp only [Act.put, List.setIfInBounds_toArray, List.set_cons_zero, List.set_cons_succ]))
      refine flow2_turn (o := _) rfl rfl ?_
      intro wT hE hS K hK
      have hE3 : Below w.heap.size w wT := (Below.refl w.heap.size w).drew.trans hE
      have HH := Lib.hid (HO.out.below hE3)
      have HST := Lib.hid hS
      refine turn_copy (α := Bl) (.tmp 73) (.tmp 76) rfl HH.out (k := i + 1) (l.drop i) ⟨b, off + i * n Bl, none⟩ (l.length + 1 - i) (cap - i) (cap - (i + 1)) (by rw [List.length_drop]; omega) (by rw [List.length_drop]; show min (l.length + 1 - i) (l.length + 1 - (i + 1)) = l.length - i; omega) (fun j u hu => ?_) (by first | rfl | (rw [Nat.add_sub_add_right]; rfl)) rfl ?_
      · rw [enc_drop, List.getElem?_drop] at hu
        have := (Sl.news (HR.out.below hE3)).2 _ rfl _ u hu
        rw [addr_add] at this
        rw [addr_add, Nat.add_assoc]
        exact this
      · intro w4 h4 hg4 hs4
        have hvb4 := (hg4.block vb (heap_lt HST.out.2) (by simpa using fun h => hbv h.symm)).trans HST.out.2
        refine hK _ _ ⟨HST.out.1.grown hg4 (Nat.le_trans hB HST.out.1.size) (fun k hk => by cases hk; exact HR.out.ge b rfl), hvb4⟩ ?_
        have H4 := Lib.hid h4
        clear hK K h4 hg4 hs4 HST hvb4
        simp only [Act.put, List.setIfInBounds_toArray, List.set_cons_zero, List.set_cons_succ]
        refine flow2_nil ?_
        intro w5 hE5 hS5
        have H5 := Lib.hid (H4.out.below hE5)
        have HB5 := Lib.hid hS5.1
        have HV5 := Lib.hid (range_row hS5.2)
        clear hE5 hS5
        go_wp2_with (refine rw_copy (α := Bl) rfl (.tmp 80) (.tmp 81) rfl H5.out (k := i) [x] ⟨vb, 0, none⟩ 1 1 (cap - i) (by simp; omega) (by show min 1 (l.length + 1 - i) = 1; omega) (fun j u hu => by rw [addr_add]; exact HV5.out j u (by rwa [enc_cons, enc_nil, List.append_nil] at hu)) rfl rfl ?_; intro w6 h6 hg6 hs6; have H6 := Lib.hid h6; have HB6 := Lib.hid (HB5.out.grown hg6 (Nat.le_trans hB HB5.out.size) (fun k hk => by cases hk; exact HR.out.ge b rfl)); clear h6 hg6 hs6)
        go_ret
        refine ⟨_, rfl, ?_, HB6.out⟩
        have hz := H6.out
        rw [ins_room hil x HYL.out] at hz
        show Sl _ _ _ _ _ _ _
        rw [show (l.take i ++ x :: l.drop i).length = l.length + 1 by simp; omega]
        exact hz
end Go.Proofs.YtokhnbdhcehonaaGreat
