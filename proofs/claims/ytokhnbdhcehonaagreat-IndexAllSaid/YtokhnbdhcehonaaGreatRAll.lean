/- index: the document's All. -/
import Derived.Test.YtokhnbdhcehonaaGreatChkEq
import Derived.Test.YtokhnbdhcehonaaGreatFlowA
set_option linter.unusedSimpArgs false
set_option linter.unusedVariables false
namespace Go.Proofs.YtokhnbdhcehonaaGreat
open Go Go.RowKit Row
set_option maxRecDepth 100000
theorem apR_eq (c : Ca) {x : Ch} (ho : x.ok) : apR c x = apC c x := by
  unfold apR apC
  rw [chk_eq ho]
  rfl
theorem turn_alloc {α : Type} [Row α] [RowT α] {w : World} {o : Oper} {a : Act} {K : Value → World → Prop} (ho : o.op = .alloc (RowT.T α)) (hK : K (.pointer (some ⟨w.heap.size, 0, none⟩)) (w.alloc (.cells (arr (RowT.z : α)) (RowT.T α)))) : effR Tryz.prog K ((execOp a.eval o).run Tryz.prog w) := by
  unfold execOp
  simp only [ho, Sem.run_bind, Sem.run_pure, Result.andThen_ok, RowT.halloc]
  exact hK
/-- the three boxes, and a fourth with a cache of its own -/
structure Fb (w wq : World) (cv dv : Cv) (gb : Nat) (ev : Cv) (d : Ca) : Prop where
  fa : Fa w wq cv dv
  hgb : w.heap.size + 3 ≤ gb
  eb : wq.heap[gb]? = some (.cells (arr ev) 30)
  ca : CaAt wq ev d
theorem Fb.below {w wq w' : World} {cv dv ev : Cv} {gb : Nat} {d : Ca} (h : Fb w wq cv dv gb ev d) (hb : Below wq.heap.size wq w') : Fb w w' cv dv gb ev d :=
  ⟨h.fa.below hb, h.hgb, (hb.block _ (heap_lt h.eb)).trans h.eb, h.ca.below hb⟩
theorem Fa.high {w wq w' : World} {cv dv : Cv} {k : Nat} (h : Fa w wq cv dv) (hg : wq.grownBy w' (some k)) (hk : w.heap.size + 3 ≤ k) : Fa w w' cv dv :=
  ⟨h.bl.grown hg h.bl.size (fun j hj => by cases hj; omega), (hg.block _ (heap_lt h.cb) (by simp; omega)).trans h.cb, (hg.block _ (heap_lt h.zb) (by simp; omega)).trans h.zb, (hg.block _ (heap_lt h.ob) (by simp; omega)).trans h.ob⟩
theorem Fa.size {w wq : World} {cv dv : Cv} (h : Fa w wq cv dv) : w.heap.size + 3 ≤ wq.heap.size := by
  have := heap_lt h.ob
  omega
set_option maxHeartbeats 32000000 in
theorem rall_any {c : Ca} {cv : Cv} {w : World} (h : CaAt w cv c) (hf : Few c 900) (hr : Rises c) {l : List Ch} {v : Value} (hl : Ro w v l) (hlen : l.length ≤ 50) (hok : ∀ x ∈ l, x.ok) :
    Calls Tryz.prog 13 #[.agg (arr cv), v] w (GoV ((goC c l).getD c) (goC c l).isSome w) := by
  obtain ⟨A, cap, hv, hlc, hcap⟩ := hl.any
  subst hv
  have HF0 := Lib.hid (Fa.start w cv)
  have HCA := Lib.hid h
  have HC0 := Lib.hid (h.below (Fa.start w cv).bl)
  have HRI := Lib.hid hr
  have HFE := Lib.hid hf
  have HL := Lib.hid hl
  have HOK := Lib.hid hok
  clear h hf hr hl hok
  obtain ⟨P, hP⟩ : ∃ P, P = goC c l := ⟨_, rfl⟩
  rw [← hP]
  have HP := Lib.hid hP
  clear hP
  have hm63 : maxLen = 9223372036854775807 := rfl
  go_enter Tryz.func13, Tryz.ntmps13
  go_wp2_with (first
      | (refine rw_put (α := Cv) _ 6 (.tmp 10) rfl rfl rfl rfl rfl rfl cv rfl rfl ?_)
      | (refine rw_alloc (α := Cv) rfl rfl ?_)
      | (refine rw_load (α := Cv) rfl (.tmp 2) rfl w.heap.size 0 rfl cv (range_row (heap_old_at (heap_alloc_new _ _))) ?_))
  go_loopw [7] (fun i wq => ∃ k : Nat, k ≤ l.length ∧ i = .int .i64 k ∧ ∃ (dv : Cv) (d : Ca), goC c (l.take k) = some d ∧ CaAt wq dv d ∧ Fa w wq cv dv) (fun i _ => l.length - (intOf i).toNat)
  case atStart => exact ⟨0, by omega, rfl, cv, c, rfl, HC0.out, HF0.out⟩
  case round =>
    obtain ⟨k, hk, rfl, dv, d, hd, hca, hfa⟩ := hrel
    have HD := Lib.hid hd
    have HC := Lib.hid hca
    have HF := Lib.hid hfa
    clear hd hca hfa
    by_cases hlt : k < l.length
    · have hltI : (k : Int) < (l.length : Int) := by omega
      obtain ⟨b, off, cap', he, hbl, hrg⟩ := HL.out.at_ (by omega)
      cases he
      have HE := Lib.hid (And.intro (rangeAt_below (hrg k hlt) hbl HF.out.bl) (Nat.lt_of_lt_of_le hbl HF.out.bl.size))
      clear hbl hrg
      have HAP : Hid (∀ W', Below wr.heap.size wr W' → Calls Tryz.prog 33 #[.agg (arr dv), .agg (arr l[k])] W' (GoV (apC d l[k]).1 (apC d l[k]).2 W')) := Lib.hid (fun W' hb => by
        rw [← apR_eq d (HOK.out _ (List.getElem_mem hlt))]
        exact rapply_any (HC.out.below hb) ((goC_few HFE.out HD.out).up (by rw [List.length_take]; omega)) (goC_rises HRI.out HD.out) l[k])
      have HST := Lib.hid (fun hx => goC_step (l := l) (k := k) hlt HD.out hx)
      have HSP := Lib.hid (fun hx => HP.out.trans (goC_stop (l := l) (k := k) hlt HD.out hx))
      generalize apC d l[k] = D at HAP HST HSP
      generalize l[k] = x at *
      obtain ⟨d1, d2⟩ := D
      go_wp2_with fail
      refine A2.wp_region_alt_lit [0, 1, 2, 3, 4] 5 9 [(6, false), (7, false), (8, false), (9, true), (10, true), (11, false)] [(5, true), (6, false), (7, false), (8, false), (10, true), (11, false)] (fun wS => Below wr.heap.size wr wS) (by kernel_rfl) (by kernel_rfl) (by kernel_rfl) (Below.refl _ _).drew ?_
      simp only [List.map_cons, List.map_nil]
      (refine flow2_take (v := .agg (arr dv)) (o := _) rfl rfl (fun wS hS => gives_row rfl rfl (range_row (HF.out.below hS).ob) ⟨hS, Ext.refl wS⟩) ?_; simp only [Act.put, List.setIfInBounds_toArray, List.set_cons_zero, List.set_cons_succ])
      repeat (first | (refine' flow2_pass (o := _) rfl _ _; (focus rfl); simp only [Act.put, List.setIfInBounds_toArray, List.set_cons_zero, List.set_cons_succ]) | (refine' flow2_take (v := _) (o := _) rfl _ _ _; rotate_left; (focus rfl); (focus (intro wS hS; have hE := Ext.refl wS; (skip); go_simp; try (with_reducible (first | exact ⟨rfl, hS, hE⟩ | rfl)); done)); simp only [Act.put, List.setIfInBounds_toArray, List.set_cons_zero, List.set_cons_succ]))
      (refine flow2_take (v := .agg (arr x)) (o := _) rfl rfl (fun wS hS => gives_row rfl rfl (rangeAt_below HE.out.1 HE.out.2 hS) ⟨hS, Ext.refl wS⟩) ?_; simp only [Act.put, List.setIfInBounds_toArray, List.set_cons_zero, List.set_cons_succ])
      refine flow2_nil ?_
      intro w0 hE0 hS0
      clear hE0 hS0 w0
      refine ⟨?_, ?_⟩
      · -- the call first
        refine flow2_turn (o := _) rfl rfl ?_
        intro wT hE hS K hK
        go_simp
        refine (HAP.out wT hS).mono ?_
        rintro e w3 ⟨cv1, rfl, hca1, hb3⟩
        have HF3 := Lib.hid ((HF.out.below hS).below hb3)
        have HC3 := Lib.hid hca1
        have hS3 := hS.trans (hb3.mono hS.size)
        refine hK _ _ hS3 ?_
        clear hE hS hK K hb3 hca1 hS3
        simp only [Act.put, List.setIfInBounds_toArray, List.set_cons_zero, List.set_cons_succ]
        repeat (first | (refine' flow2_pass (o := _) rfl _ _; (focus rfl); simp only [Act.put, List.setIfInBounds_toArray, List.set_cons_zero, List.set_cons_succ]) | (refine' flow2_take (v := _) (o := _) rfl _ _ _; rotate_left; (focus rfl); (focus (intro wS hS; have hE := Ext.refl wS; (skip); go_simp; try (with_reducible (first | exact ⟨rfl, hS, hE⟩ | rfl)); done)); simp only [Act.put, List.setIfInBounds_toArray, List.set_cons_zero, List.set_cons_succ]))
        refine flow2_turn (o := _) rfl rfl ?_
        intro wU hE hS K hK
        refine turn_alloc (α := Cv) rfl ?_
        refine hK _ _ (hS.trans (bel_box.mono hS.size)) ?_
        have HF4 := Lib.hid (((HF3.out.below hE)).below (bel_box (o := .cells (arr (RowT.z : Cv)) (RowT.T Cv))))
        have HC4 := Lib.hid ((HC3.out.below hE).below (bel_box (o := .cells (arr (RowT.z : Cv)) (RowT.T Cv))))
        have HG4 := Lib.hid (And.intro (And.intro (HF3.out.below hE).size hS.size) (heap_alloc_new wU (.cells (arr (RowT.z : Cv)) (RowT.T Cv))))
        obtain ⟨gb, hgb⟩ : ∃ gb, gb = wU.heap.size := ⟨_, rfl⟩
        rw [← hgb] at HG4 ⊢
        clear hE hS hK K hgb
        simp only [Act.put, List.setIfInBounds_toArray, List.set_cons_zero, List.set_cons_succ]
        refine flow2_turn (o := _) rfl rfl ?_
        intro wX hE hS K hK
        have hgx := (hE.block _ (heap_lt HG4.out.2)).trans HG4.out.2
        refine turn_store (α := Cv) (.tmp 8) (.tmp 24) rfl gb cv1 _ (arr_size _) rfl rfl hgx ?_
        intro w5 hb5 hg5 hs5
        have HB5 : Hid (Fb w w5 cv dv gb cv1 d1) := Lib.hid ⟨(HF4.out.below hE).high hg5 HG4.out.1.1, HG4.out.1.1, hb5, (HC4.out.below hE).grown hg5 hgx⟩
        refine hK _ _ (hS.grown hg5 hS.size (fun j hj => by cases hj; exact HG4.out.1.2)) ?_
        clear hE hS hK K hb5 hg5 hs5 hgx
        simp only [Act.put, List.setIfInBounds_toArray, List.set_cons_zero, List.set_cons_succ]
        repeat (first | (refine' flow2_pass (o := _) rfl _ _; (focus rfl); simp only [Act.put, List.setIfInBounds_toArray, List.set_cons_zero, List.set_cons_succ]) | (refine' flow2_take (v := _) (o := _) rfl _ _ _; rotate_left; (focus rfl); (focus (intro wS hS; have hE := Ext.refl wS; (skip); go_simp; try (with_reducible (first | exact ⟨rfl, hS, hE⟩ | rfl)); done)); simp only [Act.put, List.setIfInBounds_toArray, List.set_cons_zero, List.set_cons_succ]))
        refine flow2_nil ?_
        intro w6 hE hS
        have HB6 := Lib.hid (HB5.out.below hE)
        clear hE hS
        cases d2 with
        | true =>
          have HS2 := Lib.hid (HST.out rfl)
          clear HST HSP
          go_wp2_with (first
            | (refine rw_load (α := Cv) rfl (.tmp 8) rfl gb 0 rfl cv1 (range_row HB6.out.eb) ?_)
            | (refine rw_store (α := Cv) rfl (.tmp 6) (.tmp 29) rfl (w.heap.size + 2) cv1 _ (arr_size _) rfl rfl HB6.out.fa.ob ?_; intro w7 hb7 hg7 hs7; have HF7 := Lib.hid (HB6.out.fa.cell hb7 hg7); have HC7 := Lib.hid (HB6.out.ca.grown hg7 HB6.out.fa.ob); clear hb7 hg7 hs7))
          go_roundw
          case rel => exact ⟨k + 1, by omega, by go_num, cv1, d1, HS2.out, HC7.out, HF7.out⟩
          case measure => simp [intOf]; omega
        | false =>
          obtain rfl := HSP.out rfl
          clear HST HSP
          go_wp2_with (first
            | (refine rw_load (α := Cv) rfl (.tmp 2) rfl w.heap.size 0 rfl cv (range_row HB6.out.fa.cb) ?_)
            | (refine rw_store (α := Cv) rfl (.tmp 4) (.tmp 28) rfl (w.heap.size + 1) cv _ (arr_size _) rfl rfl HB6.out.fa.zb ?_; intro w7 hb7 hg7 hs7; have HC7 := Lib.hid hb7; have HB7 := Lib.hid (HB6.out.fa.ret hg7); clear hb7 hg7 hs7))
          (try simp only [Exit.inBlock, Exit.then])
          refine bodyPost_ret (res_row (α := Cv) Tryz.results13 _ _ (w.heap.size + 1) cv (.bool false) rfl rfl HC7.out) rfl ?_
          exact ⟨_, rfl, HCA.out.below HB7.out, HB7.out⟩
      · -- the box first
        refine flow2_turn (o := _) rfl rfl ?_
        intro wU hE hS K hK
        refine turn_alloc (α := Cv) rfl ?_
        refine hK _ _ (hS.trans (bel_box.mono hS.size)) ?_
        have HF4 := Lib.hid ((HF.out.below hS).below (bel_box (o := .cells (arr (RowT.z : Cv)) (RowT.T Cv))))
        have HG4 := Lib.hid (And.intro (And.intro (HF.out.below hS).size hS.size) (heap_alloc_new wU (.cells (arr (RowT.z : Cv)) (RowT.T Cv))))
        obtain ⟨gb, hgb⟩ : ∃ gb, gb = wU.heap.size := ⟨_, rfl⟩
        rw [← hgb] at HG4 ⊢
        clear hE hS hK K hgb
        simp only [Act.put, List.setIfInBounds_toArray, List.set_cons_zero, List.set_cons_succ]
        refine flow2_turn (o := _) rfl rfl ?_
        intro wT hE hS K hK
        go_simp
        refine (HAP.out wT hS).mono ?_
        rintro e w3 ⟨cv1, rfl, hca1, hb3⟩
        have HF3 := Lib.hid (((HF4.out.below hE)).below hb3)
        have HG3 := Lib.hid ((hb3.block _ (heap_lt ((hE.block _ (heap_lt HG4.out.2)).trans HG4.out.2))).trans ((hE.block _ (heap_lt HG4.out.2)).trans HG4.out.2))
        have HC3 := Lib.hid hca1
        have hS3 := hS.trans (hb3.mono hS.size)
        refine hK _ _ hS3 ?_
        clear hE hS hK K hb3 hca1 hS3
        simp only [Act.put, List.setIfInBounds_toArray, List.set_cons_zero, List.set_cons_succ]
        repeat (first | (refine' flow2_pass (o := _) rfl _ _; (focus rfl); simp only [Act.put, List.setIfInBounds_toArray, List.set_cons_zero, List.set_cons_succ]) | (refine' flow2_take (v := _) (o := _) rfl _ _ _; rotate_left; (focus rfl); (focus (intro wS hS; have hE := Ext.refl wS; (skip); go_simp; try (with_reducible (first | exact ⟨rfl, hS, hE⟩ | rfl)); done)); simp only [Act.put, List.setIfInBounds_toArray, List.set_cons_zero, List.set_cons_succ]))
        refine flow2_turn (o := _) rfl rfl ?_
        intro wX hE hS K hK
        have hgx := (hE.block _ (heap_lt HG3.out)).trans HG3.out
        refine turn_store (α := Cv) (.tmp 8) (.tmp 24) rfl gb cv1 _ (arr_size _) rfl rfl hgx ?_
        intro w5 hb5 hg5 hs5
        have HB5 : Hid (Fb w w5 cv dv gb cv1 d1) := Lib.hid ⟨(HF3.out.below hE).high hg5 HG4.out.1.1, HG4.out.1.1, hb5, (HC3.out.below hE).grown hg5 hgx⟩
        refine hK _ _ (hS.grown hg5 hS.size (fun j hj => by cases hj; exact HG4.out.1.2)) ?_
        clear hE hS hK K hb5 hg5 hs5 hgx
        simp only [Act.put, List.setIfInBounds_toArray, List.set_cons_zero, List.set_cons_succ]
        repeat (first | (refine' flow2_pass (o := _) rfl _ _; (focus rfl); simp only [Act.put, List.setIfInBounds_toArray, List.set_cons_zero, List.set_cons_succ]) | (refine' flow2_take (v := _) (o := _) rfl _ _ _; rotate_left; (focus rfl); (focus (intro wS hS; have hE := Ext.refl wS; (skip); go_simp; try (with_reducible (first | exact ⟨rfl, hS, hE⟩ | rfl)); done)); simp only [Act.put, List.setIfInBounds_toArray, List.set_cons_zero, List.set_cons_succ]))
        refine flow2_nil ?_
        intro w6 hE hS
        have HB6 := Lib.hid (HB5.out.below hE)
        clear hE hS
        cases d2 with
        | true =>
          have HS2 := Lib.hid (HST.out rfl)
          clear HST HSP
          go_wp2_with (first
            | (refine rw_load (α := Cv) rfl (.tmp 8) rfl gb 0 rfl cv1 (range_row HB6.out.eb) ?_)
            | (refine rw_store (α := Cv) rfl (.tmp 6) (.tmp 29) rfl (w.heap.size + 2) cv1 _ (arr_size _) rfl rfl HB6.out.fa.ob ?_; intro w7 hb7 hg7 hs7; have HF7 := Lib.hid (HB6.out.fa.cell hb7 hg7); have HC7 := Lib.hid (HB6.out.ca.grown hg7 HB6.out.fa.ob); clear hb7 hg7 hs7))
          go_roundw
          case rel => exact ⟨k + 1, by omega, by go_num, cv1, d1, HS2.out, HC7.out, HF7.out⟩
          case measure => simp [intOf]; omega
        | false =>
          obtain rfl := HSP.out rfl
          clear HST HSP
          go_wp2_with (first
            | (refine rw_load (α := Cv) rfl (.tmp 2) rfl w.heap.size 0 rfl cv (range_row HB6.out.fa.cb) ?_)
            | (refine rw_store (α := Cv) rfl (.tmp 4) (.tmp 28) rfl (w.heap.size + 1) cv _ (arr_size _) rfl rfl HB6.out.fa.zb ?_; intro w7 hb7 hg7 hs7; have HC7 := Lib.hid hb7; have HB7 := Lib.hid (HB6.out.fa.ret hg7); clear hb7 hg7 hs7))
          (try simp only [Exit.inBlock, Exit.then])
          refine bodyPost_ret (res_row (α := Cv) Tryz.results13 _ _ (w.heap.size + 1) cv (.bool false) rfl rfl HC7.out) rfl ?_
          exact ⟨_, rfl, HCA.out.below HB7.out, HB7.out⟩
    · have hltI : ¬ (k : Int) < (l.length : Int) := by omega
      obtain rfl : k = l.length := by omega
      have hd' := HD.out
      rw [List.take_length] at hd'
      obtain rfl := HP.out.trans hd'
      clear hd'
      go_wp2_with (first
          | (refine rw_load (α := Cv) rfl (.tmp 6) rfl (w.heap.size + 2) 0 rfl dv (range_row HF.out.ob) ?_)
          | (refine rw_store (α := Cv) rfl (.tmp 4) (.tmp 30) rfl (w.heap.size + 1) dv _ (arr_size _) rfl rfl HF.out.zb ?_; intro w5 hb5 hg5 hs5; have HC5 := Lib.hid hb5; have HB5 := Lib.hid (HF.out.ret hg5); have HC6 := Lib.hid (HC.out.grown hg5 HF.out.zb); clear hb5 hg5 hs5))
      (try simp only [Exit.inBlock, Exit.then])
      refine bodyPost_ret (res_row (α := Cv) Tryz.results13 _ _ (w.heap.size + 1) dv (.bool true) rfl rfl HC5.out) rfl ?_
      exact ⟨_, rfl, HC6.out, HB5.out⟩
end Go.Proofs.YtokhnbdhcehonaaGreat
