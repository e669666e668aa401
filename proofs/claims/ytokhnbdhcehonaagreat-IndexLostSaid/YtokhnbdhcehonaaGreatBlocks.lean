/- index: blocks. -/
import Derived.Test.YtokhnbdhcehonaaGreatFiles
set_option linter.unusedSimpArgs false
set_option linter.unusedVariables false
namespace Go.Proofs.YtokhnbdhcehonaaGreat
open Go Go.RowKit Row
set_option maxRecDepth 100000
def takenC (c : Ca) (x : Ch) : Bool := c.bs.any (fun y => y.sl == x.sl && !decide (kB y = (x.up, x.no)))
def blocksC (c : Ca) (x : Ch) : Ca × Bool :=
  if x.k = 9 then ({ c with bs := del kB c.bs (x.up, x.no) }, (find kB c.bs (x.up, x.no)).isSome)
  else ({ c with bs := put kB lB c.bs ⟨x.up, x.no, x.sl⟩ }, (find kF c.fs x.up).isSome && !takenC c x)
set_option maxHeartbeats 16000000 in
theorem blocks_any {c : Ca} {cv : Cv} {w : World} (h : CaAt w cv c) (hf : Few c 999) (hs : Srt kF lF c.fs) (hn : Srt kB lB c.bs) (x : Ch) :
    Calls Tryz.prog 76 #[.agg (arr cv), .agg (arr x)] w fun r w' => ∃ cv', r = .returned (.tuple #[.agg (arr cv'), .bool (blocksC c x).2]) ∧ CaAt w' cv' (blocksC c x).1 ∧ Below w.heap.size w w' := by
  have hF0 := Fr.start w cv x
  obtain ⟨⟨-, -, -, x3⟩, -, -, x16, x17⟩ := ch_cells hF0.xb
  have hF1 := hF0.below (bel_box (o := .cells (arr (⟨x.up, x.no, x.sl⟩ : Bl)) (RowT.T Bl)))
  obtain ⟨⟨y0, -, -, y3⟩, -, -, y16, -⟩ := ch_cells hF1.xb
  have c3 := (cv_cells hF1.cb).2.2.2
  have hq1 := heap_new_at (W3 w cv x) (.cells (arr (⟨x.up, x.no, x.sl⟩ : Bl)) (RowT.T Bl)) (S := w.heap.size + 3) (by rw [alloc_size, alloc_size, alloc_size])
  have HCA := Lib.hid h
  have HFW := Lib.hid hf
  have HSF := Lib.hid hs
  have HSN := Lib.hid hn
  have HF1 := Lib.hid hF1
  have HQ1 := Lib.hid hq1
  clear h hf hs hn hF0 hF1 hq1
  obtain ⟨P, hP⟩ : ∃ P, P = blocksC c x := ⟨_, rfl⟩
  rw [← hP]
  by_cases hk : x.k = 9
  · have hk6 : (x.k == 9) = true := by simp [hk]
    have HH := Lib.hid (block_any (HCA.out.below HF1.out.bl) HSN.out x.up x.no)
    obtain ⟨th, hth⟩ : ∃ th, th = (find kB c.bs (x.up, x.no)).isSome := ⟨_, rfl⟩
    rw [← hth] at HH
    obtain rfl : P = ({ c with bs := del kB c.bs (x.up, x.no) }, th) := by rw [hP, hth]; exact if_pos hk
    clear hP hth hk
    generalize ((find kB c.bs (x.up, x.no)).getD RowT.z).sl = ya at HH
    go_enter Tryz.func76, Tryz.ntmps76
    go_wp2_with (first
      | (refine rw_alloc (α := Cv) rfl rfl ?_)
      | (refine rw_put (α := Bl) _ 6 (.tmp 18) rfl rfl rfl rfl rfl rfl ⟨x.up, x.no, x.sl⟩ rfl rfl ?_)
      | (refine rw_load (α := Cv) rfl (.tmp 2) rfl w.heap.size 0 rfl cv (range_row HF1.out.cb) ?_))
    refine HH.out.mono ?_
    rintro r w2 ⟨rfl, hb2⟩
    have HF2 := Lib.hid (HF1.out.below hb2)
    have HQ2 := Lib.hid ((hb2.block _ (heap_lt HQ1.out)).trans HQ1.out)
    have c3' := (cv_cells HF2.out.cb).2.2.2
    have HWO := Lib.hid (show Calls _ _ _ _ fun e w' => ∃ v', e = .returned v' ∧ Rs w' w2.heap.size v' (del kB c.bs (x.up, x.no)) ∧ Below w2.heap.size w2 w' from wo_Bl (HCA.out.bs.below HF2.out.bl) (Nat.le_trans HFW.out.bs (by decide)) (blocks1_pb (⟨x.up, x.no, x.sl⟩ : Bl) HQ2.out (heap_lt HQ2.out)))
    clear hb2 HH c3
    go_wp2_with fail
    refine HWO.out.mono ?_
    rintro r w3 ⟨v3, rfl, hr3, hb3⟩
    obtain ⟨A3, k3, hv3, _, _⟩ := hr3.any
    subst hv3
    have HR3 := Lib.hid hr3
    have HF3 := Lib.hid (HF2.out.below hb3)
    clear hr3 hb3 HWO c3'
    go_wp2_with (first
      | (refine rw_cell (α := Cv) rfl 28 (.tmp 35) (.tmp 34) rfl w.heap.size 3 cv { cv with d := ⟨A3, _, k3⟩ } (.slice A3 _ k3) rfl rfl HF3.out.cb (by decide) rfl rfl size28 ?_; intro w4 hb4 hg4 hs4; have HF4 := Lib.hid (HF3.out.cell (cv' := { cv with d := ⟨A3, _, k3⟩ }) hb4 hg4); have HR4 := Lib.hid (HR3.out.grown hg4 HF3.out.cb (by decide)); clear hb4 hg4 hs4)
      | (refine rw_load (α := Cv) rfl (.tmp 2) rfl w.heap.size 0 rfl { cv with d := ⟨A3, _, k3⟩ } (range_row HF4.out.cb) ?_)
      | (refine rw_store (α := Cv) rfl (.tmp 4) (.tmp 36) rfl (w.heap.size + 2) { cv with d := ⟨A3, _, k3⟩ } _ (arr_size _) rfl rfl HF4.out.zb ?_; intro w5 hb5 hg5 hs5; have HC5 := Lib.hid hb5; have HB5 := Lib.hid (HF4.out.ret hg5); have HR5 := Lib.hid (HR4.out.grown hg5 HF4.out.zb (by decide)); clear hb5 hg5 hs5))
    (try simp only [Exit.inBlock, Exit.then])
    refine bodyPost_ret (res_row (α := Cv) Tryz.results76 _ _ (w.heap.size + 2) { cv with d := ⟨A3, _, k3⟩ } (.bool th) rfl rfl HC5.out) rfl ?_
    exact ⟨_, rfl, ⟨HCA.out.hs.below HB5.out, HCA.out.fs.below HB5.out, HCA.out.ns.below HB5.out, HR5.out.mono (Nat.zero_le _)⟩, HB5.out⟩
  · have hk6 : (x.k == 9) = false := by simp [hk]
    have HH := Lib.hid (file_any (HCA.out.below HF1.out.bl) HSF.out x.up)
    obtain ⟨th, hth⟩ : ∃ th, th = (find kF c.fs x.up).isSome := ⟨_, rfl⟩
    obtain ⟨tk, htk⟩ : ∃ tk, tk = takenC c x := ⟨_, rfl⟩
    rw [← hth] at HH
    obtain rfl : P = ({ c with bs := put kB lB c.bs ⟨x.up, x.no, x.sl⟩ }, th && !tk) := by rw [hP, hth, htk]; exact if_neg hk
    have HTK := Lib.hid htk
    clear hP hth hk htk
    generalize ((find kF c.fs x.up).getD RowT.z).a = ya at HH
    go_enter Tryz.func76, Tryz.ntmps76
    go_wp2_with (first
      | (refine rw_alloc (α := Cv) rfl rfl ?_)
      | (refine rw_put (α := Bl) _ 6 (.tmp 18) rfl rfl rfl rfl rfl rfl ⟨x.up, x.no, x.sl⟩ rfl rfl ?_)
      | (refine rw_load (α := Cv) rfl (.tmp 2) rfl w.heap.size 0 rfl cv (range_row HF1.out.cb) ?_))
    refine HH.out.mono ?_
    rintro r w2 ⟨rfl, hb2⟩
    have HF2 := Lib.hid ((HF1.out.below hb2).below (bel_box (o := .cells (arr ya) (RowT.T At))))
    have HQ2 := Lib.hid (heap_old_at (o := .cells (arr ya) (RowT.T At)) ((hb2.block _ (heap_lt HQ1.out)).trans HQ1.out))
    have c3' := (cv_cells HF2.out.cb).2.2.2
    have HCB := Lib.hid (show Calls _ _ _ _ fun e w' => e = .returned (.bool (takenC c x)) ∧ Below (w2.alloc (.cells (arr ya) (RowT.T At))).heap.size (w2.alloc (.cells (arr ya) (RowT.T At))) w' from cb_any (blocks2_pb (⟨x.up, x.no, x.sl⟩ : Bl) HQ2.out (heap_lt HQ2.out)) (Nat.le_refl _) (HCA.out.bs.below HF2.out.bl))
    rw [← HTK.out] at HCB
    clear hb2 HH c3 HTK
    go_wp2_with (first
      | (refine rw_put (α := At) _ 9 (.tmp 43) rfl rfl rfl rfl rfl rfl ya rfl rfl ?_))
    refine HCB.out.mono ?_
    rintro r w3 ⟨rfl, hb3⟩
    have HF3 := Lib.hid (HF2.out.below hb3)
    have HQ3 := Lib.hid ((hb3.block _ (heap_lt HQ2.out)).trans HQ2.out)
    have c3 := (cv_cells HF3.out.cb).2.2.2
    have HWI := Lib.hid (wi_Bl (⟨x.up, x.no, x.sl⟩ : Bl) HSN.out (HCA.out.bs.below HF3.out.bl) HFW.out.bs)
    clear hb3 HCB c3'
    go_wp2_with (refine rw_load (α := Bl) rfl (.tmp 6) rfl (w.heap.size + 3) 0 rfl ⟨x.up, x.no, x.sl⟩ (range_row HQ3.out) ?_)
    refine HWI.out.mono ?_
    rintro r w4 ⟨v3, rfl, hr3, hb3⟩
    obtain ⟨A3, k3, hv3, _, _⟩ := hr3.any
    subst hv3
    have HR3 := Lib.hid hr3
    have HF4 := Lib.hid (HF3.out.below hb3)
    clear hr3 hb3 HWI c3
    cases th <;> cases tk
    all_goals
      go_wp2_with (first
        | (refine rw_cell (α := Cv) rfl 28 (.tmp 53) (.tmp 52) rfl w.heap.size 3 cv { cv with d := ⟨A3, _, k3⟩ } (.slice A3 _ k3) rfl rfl HF4.out.cb (by decide) rfl rfl size28 ?_; intro w5 hb4 hg4 hs4; have HF5 := Lib.hid (HF4.out.cell (cv' := { cv with d := ⟨A3, _, k3⟩ }) hb4 hg4); have HR4 := Lib.hid (HR3.out.grown hg4 HF4.out.cb (by decide)); clear hb4 hg4 hs4)
        | (refine rw_load (α := Cv) rfl (.tmp 2) rfl w.heap.size 0 rfl { cv with d := ⟨A3, _, k3⟩ } (range_row HF5.out.cb) ?_)
        | (refine rw_store (α := Cv) rfl (.tmp 4) (.tmp 54) rfl (w.heap.size + 2) { cv with d := ⟨A3, _, k3⟩ } _ (arr_size _) rfl rfl HF5.out.zb ?_; intro w6 hb5 hg5 hs5; have HC5 := Lib.hid hb5; have HB5 := Lib.hid (HF5.out.ret hg5); have HR5 := Lib.hid (HR4.out.grown hg5 HF5.out.zb (by decide)); clear hb5 hg5 hs5))
      (try simp only [Exit.inBlock, Exit.then])
      refine bodyPost_ret (res_row (α := Cv) Tryz.results76 _ _ (w.heap.size + 2) { cv with d := ⟨A3, _, k3⟩ } (.bool _) rfl rfl HC5.out) rfl ?_
      exact ⟨_, rfl, ⟨HCA.out.hs.below HB5.out, HCA.out.fs.below HB5.out, HCA.out.ns.below HB5.out, HR5.out.mono (Nat.zero_le _)⟩, HB5.out⟩
end Go.Proofs.YtokhnbdhcehonaaGreat
