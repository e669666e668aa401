/- index: names. -/
import Derived.Test.YtokhnbdhcehonaaGreatFiles
set_option linter.unusedSimpArgs false
set_option linter.unusedVariables false
namespace Go.Proofs.YtokhnbdhcehonaaGreat
open Go Go.RowKit Row
set_option maxRecDepth 100000
def namesC (c : Ca) (x : Ch) : Ca × Bool :=
  if x.k = 6 then ({ c with ns := put kN lN c.ns ⟨x.up, x.name, x.ch⟩ }, (find kF c.fs x.up).isSome)
  else ({ c with ns := del kN c.ns (x.up, x.name) }, (find kN c.ns (x.up, x.name)).isSome)
set_option maxHeartbeats 16000000 in
theorem names_any {c : Ca} {cv : Cv} {w : World} (h : CaAt w cv c) (hf : Few c 999) (hs : Srt kF lF c.fs) (hn : Srt kN lN c.ns) (x : Ch) :
    Calls Tryz.prog 79 #[.agg (arr cv), .agg (arr x)] w fun r w' => ∃ cv', r = .returned (.tuple #[.agg (arr cv'), .bool (namesC c x).2]) ∧ CaAt w' cv' (namesC c x).1 ∧ Below w.heap.size w w' := by
  have hF0 := Fr.start w cv x
  obtain ⟨⟨-, -, -, x3⟩, x4, x5, -⟩ := ch_cells hF0.xb
  have hF1 := hF0.below (bel_box (o := .cells (arr (⟨x.up, x.name, x.ch⟩ : Nm)) (RowT.T Nm)))
  obtain ⟨⟨y0, -, -, y3⟩, y4, -⟩ := ch_cells hF1.xb
  have c2 := (cv_cells hF1.cb).2.2.1
  have hq1 := heap_new_at (W3 w cv x) (.cells (arr (⟨x.up, x.name, x.ch⟩ : Nm)) (RowT.T Nm)) (S := w.heap.size + 3) (by rw [alloc_size, alloc_size, alloc_size])
  have HCA := Lib.hid h
  have HFW := Lib.hid hf
  have HSF := Lib.hid hs
  have HSN := Lib.hid hn
  have HF1 := Lib.hid hF1
  have HQ1 := Lib.hid hq1
  clear h hf hs hn hF0 hF1 hq1
  obtain ⟨P, hP⟩ : ∃ P, P = namesC c x := ⟨_, rfl⟩
  rw [← hP]
  by_cases hk : x.k = 6
  · have hk6 : (x.k == 6) = true := by simp [hk]
    have HH := Lib.hid (file_any (HCA.out.below HF1.out.bl) HSF.out x.up)
    obtain ⟨th, hth⟩ : ∃ th, th = (find kF c.fs x.up).isSome := ⟨_, rfl⟩
    rw [← hth] at HH
    obtain rfl : P = ({ c with ns := put kN lN c.ns ⟨x.up, x.name, x.ch⟩ }, th) := by rw [hP, hth]; exact if_pos hk
    clear hP hth hk
    generalize ((find kF c.fs x.up).getD RowT.z).a = ya at HH
    go_enter Tryz.func79, Tryz.ntmps79
    go_wp2_with (first
      | (refine rw_alloc (α := Cv) rfl rfl ?_)
      | (refine rw_put (α := Nm) _ 6 (.tmp 17) rfl rfl rfl rfl rfl rfl ⟨x.up, x.name, x.ch⟩ rfl rfl ?_)
      | (refine rw_load (α := Cv) rfl (.tmp 2) rfl w.heap.size 0 rfl cv (range_row HF1.out.cb) ?_))
    refine HH.out.mono ?_
    rintro r w2 ⟨rfl, hb2⟩
    have HF2 := Lib.hid ((HF1.out.below hb2).below (bel_box (o := .cells (arr ya) (RowT.T At))))
    have HQ2 := Lib.hid (heap_old_at (o := .cells (arr ya) (RowT.T At)) ((hb2.block _ (heap_lt HQ1.out)).trans HQ1.out))
    have c2' := (cv_cells HF2.out.cb).2.2.1
    have HWI := Lib.hid (wi_Nm (⟨x.up, x.name, x.ch⟩ : Nm) HSN.out (HCA.out.ns.below HF2.out.bl) HFW.out.ns)
    clear hb2 HH c2
    go_wp2_with (first
      | (refine rw_put (α := At) _ 7 (.tmp 26) rfl rfl rfl rfl rfl rfl ya rfl rfl ?_)
      | (refine rw_load (α := Nm) rfl (.tmp 6) rfl (w.heap.size + 3) 0 rfl ⟨x.up, x.name, x.ch⟩ (range_row HQ2.out) ?_))
    refine HWI.out.mono ?_
    rintro r w3 ⟨v3, rfl, hr3, hb3⟩
    obtain ⟨A3, k3, hv3, _, _⟩ := hr3.any
    subst hv3
    have HR3 := Lib.hid hr3
    have HF3 := Lib.hid (HF2.out.below hb3)
    clear hr3 hb3 HWI c2'
    go_wp2_with (first
      | (refine rw_cell (α := Cv) rfl 27 (.tmp 32) (.tmp 31) rfl w.heap.size 2 cv { cv with c := ⟨A3, _, k3⟩ } (.slice A3 _ k3) rfl rfl HF3.out.cb (by decide) rfl rfl size27 ?_; intro w4 hb4 hg4 hs4; have HF4 := Lib.hid (HF3.out.cell (cv' := { cv with c := ⟨A3, _, k3⟩ }) hb4 hg4); have HR4 := Lib.hid (HR3.out.grown hg4 HF3.out.cb (by decide)); clear hb4 hg4 hs4)
      | (refine rw_load (α := Cv) rfl (.tmp 2) rfl w.heap.size 0 rfl { cv with c := ⟨A3, _, k3⟩ } (range_row HF4.out.cb) ?_)
      | (refine rw_store (α := Cv) rfl (.tmp 4) (.tmp 33) rfl (w.heap.size + 2) { cv with c := ⟨A3, _, k3⟩ } _ (arr_size _) rfl rfl HF4.out.zb ?_; intro w5 hb5 hg5 hs5; have HC5 := Lib.hid hb5; have HB5 := Lib.hid (HF4.out.ret hg5); have HR5 := Lib.hid (HR4.out.grown hg5 HF4.out.zb (by decide)); clear hb5 hg5 hs5))
    (try simp only [Exit.inBlock, Exit.then])
    refine bodyPost_ret (res_row (α := Cv) Tryz.results79 _ _ (w.heap.size + 2) { cv with c := ⟨A3, _, k3⟩ } (.bool th) rfl rfl HC5.out) rfl ?_
    exact ⟨_, rfl, ⟨HCA.out.hs.below HB5.out, HCA.out.fs.below HB5.out, HR5.out.mono (Nat.zero_le _), HCA.out.bs.below HB5.out⟩, HB5.out⟩
  · have hk6 : (x.k == 6) = false := by simp [hk]
    have HH := Lib.hid (name_any (HCA.out.below HF1.out.bl) HSN.out x.up x.name)
    obtain ⟨th, hth⟩ : ∃ th, th = (find kN c.ns (x.up, x.name)).isSome := ⟨_, rfl⟩
    rw [← hth] at HH
    obtain rfl : P = ({ c with ns := del kN c.ns (x.up, x.name) }, th) := by rw [hP, hth]; exact if_neg hk
    clear hP hth hk
    generalize ((find kN c.ns (x.up, x.name)).getD RowT.z).up = ya at HH
    go_enter Tryz.func79, Tryz.ntmps79
    go_wp2_with (first
      | (refine rw_alloc (α := Cv) rfl rfl ?_)
      | (refine rw_put (α := Nm) _ 6 (.tmp 17) rfl rfl rfl rfl rfl rfl ⟨x.up, x.name, x.ch⟩ rfl rfl ?_)
      | (refine rw_load (α := Cv) rfl (.tmp 2) rfl w.heap.size 0 rfl cv (range_row HF1.out.cb) ?_))
    refine HH.out.mono ?_
    rintro r w2 ⟨rfl, hb2⟩
    have HF2 := Lib.hid (HF1.out.below hb2)
    have HQ2 := Lib.hid ((hb2.block _ (heap_lt HQ1.out)).trans HQ1.out)
    have c2' := (cv_cells HF2.out.cb).2.2.1
    have HWO := Lib.hid (show Calls _ _ _ _ fun e w' => ∃ v', e = .returned v' ∧ Rs w' w2.heap.size v' (del kN c.ns (x.up, x.name)) ∧ Below w2.heap.size w2 w' from wo_Nm (HCA.out.ns.below HF2.out.bl) (Nat.le_trans HFW.out.ns (by decide)) (names1_pb (⟨x.up, x.name, x.ch⟩ : Nm) HQ2.out (heap_lt HQ2.out)))
    clear hb2 HH c2
    go_wp2_with fail
    refine HWO.out.mono ?_
    rintro r w3 ⟨v3, rfl, hr3, hb3⟩
    obtain ⟨A3, k3, hv3, _, _⟩ := hr3.any
    subst hv3
    have HR3 := Lib.hid hr3
    have HF3 := Lib.hid (HF2.out.below hb3)
    clear hr3 hb3 HWO c2'
    go_wp2_with (first
      | (refine rw_cell (α := Cv) rfl 27 (.tmp 48) (.tmp 47) rfl w.heap.size 2 cv { cv with c := ⟨A3, _, k3⟩ } (.slice A3 _ k3) rfl rfl HF3.out.cb (by decide) rfl rfl size27 ?_; intro w4 hb4 hg4 hs4; have HF4 := Lib.hid (HF3.out.cell (cv' := { cv with c := ⟨A3, _, k3⟩ }) hb4 hg4); have HR4 := Lib.hid (HR3.out.grown hg4 HF3.out.cb (by decide)); clear hb4 hg4 hs4)
      | (refine rw_load (α := Cv) rfl (.tmp 2) rfl w.heap.size 0 rfl { cv with c := ⟨A3, _, k3⟩ } (range_row HF4.out.cb) ?_)
      | (refine rw_store (α := Cv) rfl (.tmp 4) (.tmp 49) rfl (w.heap.size + 2) { cv with c := ⟨A3, _, k3⟩ } _ (arr_size _) rfl rfl HF4.out.zb ?_; intro w5 hb5 hg5 hs5; have HC5 := Lib.hid hb5; have HB5 := Lib.hid (HF4.out.ret hg5); have HR5 := Lib.hid (HR4.out.grown hg5 HF4.out.zb (by decide)); clear hb5 hg5 hs5))
    (try simp only [Exit.inBlock, Exit.then])
    refine bodyPost_ret (res_row (α := Cv) Tryz.results79 _ _ (w.heap.size + 2) { cv with c := ⟨A3, _, k3⟩ } (.bool th) rfl rfl HC5.out) rfl ?_
    exact ⟨_, rfl, ⟨HCA.out.hs.below HB5.out, HCA.out.fs.below HB5.out, HR5.out.mono (Nat.zero_le _), HCA.out.bs.below HB5.out⟩, HB5.out⟩
end Go.Proofs.YtokhnbdhcehonaaGreat
