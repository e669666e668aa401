/- index: handles. -/
import Derived.Test.YtokhnbdhcehonaaGreatBare
import Derived.Test.YtokhnbdhcehonaaGreatWi
set_option linter.unusedSimpArgs false
set_option linter.unusedVariables false
namespace Go.Proofs.YtokhnbdhcehonaaGreat
open Go Go.RowKit Row
set_option maxRecDepth 100000
theorem ch_cells {w : World} {b : Nat} {x : Ch} {t : TypeId} (h : w.heap[b]? = some (.cells (arr x) t)) :
    (w.cell? ⟨b, 0, none⟩ = some (.int .i64 x.k) ∧ w.cell? ⟨b, 1, none⟩ = some (.int .i64 x.e) ∧ w.cell? ⟨b, 2, none⟩ = some (.int .i64 x.s) ∧ w.cell? ⟨b, 3, none⟩ = some (.string x.up)) ∧
    (w.cell? ⟨b, 4, none⟩ = some (.string x.name) ∧ w.cell? ⟨b, 5, none⟩ = some (.string x.ch) ∧ w.cell? ⟨b, 16, none⟩ = some (.int .i64 x.no) ∧ w.cell? ⟨b, 17, none⟩ = some (.int .i64 x.sl)) :=
  ⟨⟨by rw [row_cell h]; rfl, by rw [row_cell h]; rfl, by rw [row_cell h]; rfl, by rw [row_cell h]; rfl⟩, by rw [row_cell h]; rfl, by rw [row_cell h]; rfl, by rw [row_cell h]; rfl, by rw [row_cell h]; rfl⟩
/-- the boxes of a call of one of the four: the cache's, the change's, the result's -/
structure Fr (w wq : World) (cv : Cv) (x : Ch) : Prop where
  bl : Below w.heap.size w wq
  cb : wq.heap[w.heap.size]? = some (.cells (arr cv) 30)
  xb : wq.heap[w.heap.size + 1]? = some (.cells (arr x) 69)
  zb : wq.heap[w.heap.size + 2]? = some (.cells (arr (RowT.z : Cv)) (RowT.T Cv))
abbrev W3 (w : World) (cv : Cv) (x : Ch) : World := ((w.alloc (.cells (arr cv) 30)).alloc (.cells (arr x) 69)).alloc (.cells (arr (RowT.z : Cv)) (RowT.T Cv))
section
variable {w wq w' : World} {cv cv' : Cv} {x : Ch}
theorem Fr.start (w : World) (cv : Cv) (x : Ch) : Fr w (W3 w cv x) cv x :=
  ⟨by go_grown, heap_old_at (heap_old_at (heap_alloc_new _ _)), heap_old_at (heap_new_at _ _ (alloc_size _ _)), heap_new_at _ _ (by rw [alloc_size, alloc_size])⟩
theorem Fr.below (h : Fr w wq cv x) (hb : Below wq.heap.size wq w') : Fr w w' cv x :=
  ⟨h.bl.trans (hb.mono h.bl.size), (hb.block _ (heap_lt h.cb)).trans h.cb, (hb.block _ (heap_lt h.xb)).trans h.xb, (hb.block _ (heap_lt h.zb)).trans h.zb⟩
theorem Fr.cell (h : Fr w wq cv x) (hc : w'.heap[w.heap.size]? = some (.cells (arr cv') 30)) (hg : wq.grownBy w' (some w.heap.size)) : Fr w w' cv' x :=
  ⟨h.bl.grown hg h.bl.size (fun j hj => by cases hj; exact Nat.le_refl _), hc, (hg.block _ (heap_lt h.xb) (by simp)).trans h.xb, (hg.block _ (heap_lt h.zb) (by simp)).trans h.zb⟩
theorem Fr.ret (h : Fr w wq cv x) (hg : wq.grownBy w' (some (w.heap.size + 2))) : Below w.heap.size w w' := h.bl.grown hg h.bl.size (fun j hj => by cases hj; omega)
end
def handlesC (c : Ca) (x : Ch) : Ca × Bool :=
  if x.k = 2 then ({ c with hs := del kH c.hs (x.e, x.s) }, (find kH c.hs (x.e, x.s)).isSome)
  else if (find kU c.hs x.up).isSome = true ∨ (find kH c.hs (x.e, x.s)).isSome = true then (c, false) else ({ c with hs := put kH lH c.hs ⟨x.e, x.s, x.up⟩ }, true)
set_option maxHeartbeats 16000000 in
theorem handles_any {c : Ca} {cv : Cv} {w : World} (h : CaAt w cv c) (hf : Few c 999) (hs : Srt kH lH c.hs) (x : Ch) :
    Calls Tryz.prog 77 #[.agg (arr cv), .agg (arr x)] w fun r w' => ∃ cv', r = .returned (.tuple #[.agg (arr cv'), .bool (handlesC c x).2]) ∧ CaAt w' cv' (handlesC c x).1 ∧ Below w.heap.size w w' := by
  have hF0 := Fr.start w cv x
  obtain ⟨⟨-, x1, x2, x3⟩, -⟩ := ch_cells hF0.xb
  have hF1 := hF0.below (bel_box (o := .cells (arr (⟨x.e, x.s, x.up⟩ : Hd)) (RowT.T Hd)))
  obtain ⟨⟨-, y1, y2, -⟩, -⟩ := ch_cells hF1.xb
  have hq1 := heap_new_at (W3 w cv x) (.cells (arr (⟨x.e, x.s, x.up⟩ : Hd)) (RowT.T Hd)) (S := w.heap.size + 3) (by rw [alloc_size, alloc_size, alloc_size])
  have HH := Lib.hid (holds_any (h.below hF1.bl) hs x.e x.s)
  have HCA := Lib.hid h
  have HFW := Lib.hid hf
  have HSR := Lib.hid hs
  have HF1 := Lib.hid hF1
  have HQ1 := Lib.hid hq1
  clear h hf hs hF0 hF1 hq1
  obtain ⟨th, hth⟩ : ∃ th, th = (find kH c.hs (x.e, x.s)).isSome := ⟨_, rfl⟩
  obtain ⟨P, hP⟩ : ∃ P, P = handlesC c x := ⟨_, rfl⟩
  rw [← hP]
  rw [← hth] at HH
  have HP : Hid (P = if x.k = 2 then ({ c with hs := del kH c.hs (x.e, x.s) }, th) else if (find kU c.hs x.up).isSome = true ∨ th = true then (c, false) else ({ c with hs := put kH lH c.hs ⟨x.e, x.s, x.up⟩ }, true)) := Lib.hid (by rw [hP, hth]; rfl)
  clear hP hth
  go_enter Tryz.func77, Tryz.ntmps77
  go_wp2_with (first
    | (refine rw_alloc (α := Cv) rfl rfl ?_)
    | (refine rw_put (α := Hd) _ 6 (.tmp 17) rfl rfl rfl rfl rfl rfl ⟨x.e, x.s, x.up⟩ rfl rfl ?_)
    | (refine rw_load (α := Cv) rfl (.tmp 2) rfl w.heap.size 0 rfl cv (range_row HF1.out.cb) ?_))
  refine HH.out.mono ?_
  rintro r w2 ⟨rfl, hb2⟩
  have HF2 := Lib.hid (HF1.out.below hb2)
  have HQ2 := Lib.hid ((hb2.block _ (heap_lt HQ1.out)).trans HQ1.out)
  obtain ⟨⟨x0, -, -, x3⟩, -⟩ := ch_cells HF2.out.xb
  have c0 := (cv_cells HF2.out.cb).1
  clear hb2 HH
  by_cases hk : x.k = 2
  · have hk2 : (x.k == 2) = true := by simp [hk]
    obtain rfl := HP.out.trans (if_pos hk)
    have HWO := Lib.hid (show Calls _ _ _ _ fun e w' => ∃ v', e = .returned v' ∧ Rs w' w2.heap.size v' (del kH c.hs (x.e, x.s)) ∧ Below w2.heap.size w2 w' from wo_Hd (HCA.out.hs.below HF2.out.bl) (Nat.le_trans HFW.out.hs (by decide)) (handles1_pb (⟨x.e, x.s, x.up⟩ : Hd) HQ2.out (heap_lt HQ2.out)))
    clear hk
    go_wp2_with fail
    refine HWO.out.mono ?_
    rintro r w3 ⟨v3, rfl, hr3, hb3⟩
    obtain ⟨A3, k3, hv3, _, _⟩ := hr3.any
    subst hv3
    have HR3 := Lib.hid hr3
    have HF3 := Lib.hid (HF2.out.below hb3)
    clear hr3 hb3 HWO c0 x0 x3
    go_wp2_with (first
      | (refine rw_cell (α := Cv) rfl 25 (.tmp 34) (.tmp 33) rfl w.heap.size 0 cv { cv with a := ⟨A3, _, k3⟩ } (.slice A3 _ k3) rfl rfl HF3.out.cb (by decide) rfl rfl size25 ?_; intro w4 hb4 hg4 hs4; have HF4 := Lib.hid (HF3.out.cell (cv' := { cv with a := ⟨A3, _, k3⟩ }) hb4 hg4); have HR4 := Lib.hid (HR3.out.grown hg4 HF3.out.cb (by decide)); clear hb4 hg4 hs4)
      | (refine rw_load (α := Cv) rfl (.tmp 2) rfl w.heap.size 0 rfl { cv with a := ⟨A3, _, k3⟩ } (range_row HF4.out.cb) ?_)
      | (refine rw_store (α := Cv) rfl (.tmp 4) (.tmp 35) rfl (w.heap.size + 2) { cv with a := ⟨A3, _, k3⟩ } _ (arr_size _) rfl rfl HF4.out.zb ?_; intro w5 hb5 hg5 hs5; have HC5 := Lib.hid hb5; have HB5 := Lib.hid (HF4.out.ret hg5); have HR5 := Lib.hid (HR4.out.grown hg5 HF4.out.zb (by decide)); clear hb5 hg5 hs5))
    (try simp only [Exit.inBlock, Exit.then])
    refine bodyPost_ret (res_row (α := Cv) Tryz.results77 _ _ (w.heap.size + 2) { cv with a := ⟨A3, _, k3⟩ } (.bool th) rfl rfl HC5.out) rfl ?_
    exact ⟨_, rfl, ⟨HR5.out.mono (Nat.zero_le _), HCA.out.fs.below HB5.out, HCA.out.ns.below HB5.out, HCA.out.bs.below HB5.out⟩, HB5.out⟩
  · have hk2 : (x.k == 2) = false := by simp [hk]
    have HP2 := Lib.hid (HP.out.trans (if_neg hk))
    clear HP
    have HI := Lib.hid (issued_any (HCA.out.below HF2.out.bl) x.up)
    clear hk c0
    obtain ⟨tw, htw⟩ : ∃ tw, tw = (find kU c.hs x.up).isSome := ⟨_, rfl⟩
    rw [← htw] at HI HP2
    clear htw
    generalize (find kU c.hs x.up).getD RowT.z = yv at HI
    go_wp2_with (refine rw_load (α := Cv) rfl (.tmp 2) rfl w.heap.size 0 rfl cv (range_row HF2.out.cb) ?_)
    refine HI.out.mono ?_
    rintro r w3 ⟨rfl, hb3⟩
    have HF3 := Lib.hid ((HF2.out.below hb3).below (bel_box (o := .cells (arr yv) (RowT.T Hd))))
    have HQ3 := Lib.hid (heap_old_at (o := .cells (arr yv) (RowT.T Hd)) ((hb3.block _ (heap_lt HQ2.out)).trans HQ2.out))
    have c0 := (cv_cells HF3.out.cb).1
    clear hb3 HI x0 x3
    cases tw with
    | true =>
      obtain rfl := HP2.out.trans (if_pos (.inl rfl))
      go_wp2_with (first
        | (refine rw_put (α := Hd) _ 9 (.tmp 42) rfl rfl rfl rfl rfl rfl yv rfl rfl ?_)
        | (refine rw_load (α := Cv) rfl (.tmp 2) rfl w.heap.size 0 rfl cv (range_row HF3.out.cb) ?_)
        | (refine rw_store (α := Cv) rfl (.tmp 4) (.tmp 48) rfl (w.heap.size + 2) cv _ (arr_size _) rfl rfl HF3.out.zb ?_; intro w5 hb5 hg5 hs5; have HC5 := Lib.hid hb5; have HB5 := Lib.hid (HF3.out.ret hg5); clear hb5 hg5 hs5))
      (try simp only [Exit.inBlock, Exit.then])
      refine bodyPost_ret (res_row (α := Cv) Tryz.results77 _ _ (w.heap.size + 2) cv (.bool false) rfl rfl HC5.out) rfl ?_
      exact ⟨_, rfl, HCA.out.below HB5.out, HB5.out⟩
    | false =>
     cases th with
     | true =>
      obtain rfl := HP2.out.trans (if_pos (.inr rfl))
      go_wp2_with (first
        | (refine rw_put (α := Hd) _ 9 (.tmp 42) rfl rfl rfl rfl rfl rfl yv rfl rfl ?_)
        | (refine rw_load (α := Cv) rfl (.tmp 2) rfl w.heap.size 0 rfl cv (range_row HF3.out.cb) ?_)
        | (refine rw_store (α := Cv) rfl (.tmp 4) (.tmp 48) rfl (w.heap.size + 2) cv _ (arr_size _) rfl rfl HF3.out.zb ?_; intro w5 hb5 hg5 hs5; have HC5 := Lib.hid hb5; have HB5 := Lib.hid (HF3.out.ret hg5); clear hb5 hg5 hs5))
      (try simp only [Exit.inBlock, Exit.then])
      refine bodyPost_ret (res_row (α := Cv) Tryz.results77 _ _ (w.heap.size + 2) cv (.bool false) rfl rfl HC5.out) rfl ?_
      exact ⟨_, rfl, HCA.out.below HB5.out, HB5.out⟩
     | false =>
      obtain rfl := HP2.out.trans (if_neg (by simp))
      have HWI := Lib.hid (wi_Hd (⟨x.e, x.s, x.up⟩ : Hd) HSR.out (HCA.out.hs.below HF3.out.bl) HFW.out.hs)
      go_wp2_with (first
        | (refine rw_put (α := Hd) _ 9 (.tmp 42) rfl rfl rfl rfl rfl rfl yv rfl rfl ?_)
        | (refine rw_load (α := Hd) rfl (.tmp 6) rfl (w.heap.size + 3) 0 rfl ⟨x.e, x.s, x.up⟩ (range_row HQ3.out) ?_))
      refine HWI.out.mono ?_
      rintro r w4 ⟨v3, rfl, hr3, hb3⟩
      obtain ⟨A3, k3, hv3, _, _⟩ := hr3.any
      subst hv3
      have HR3 := Lib.hid hr3
      have HF4 := Lib.hid (HF3.out.below hb3)
      clear hr3 hb3 HWI c0
      go_wp2_with (first
        | (refine rw_cell (α := Cv) rfl 25 (.tmp 53) (.tmp 52) rfl w.heap.size 0 cv { cv with a := ⟨A3, _, k3⟩ } (.slice A3 _ k3) rfl rfl HF4.out.cb (by decide) rfl rfl size25 ?_; intro w5 hb4 hg4 hs4; have HF5 := Lib.hid (HF4.out.cell (cv' := { cv with a := ⟨A3, _, k3⟩ }) hb4 hg4); have HR4 := Lib.hid (HR3.out.grown hg4 HF4.out.cb (by decide)); clear hb4 hg4 hs4)
        | (refine rw_load (α := Cv) rfl (.tmp 2) rfl w.heap.size 0 rfl { cv with a := ⟨A3, _, k3⟩ } (range_row HF5.out.cb) ?_)
        | (refine rw_store (α := Cv) rfl (.tmp 4) (.tmp 54) rfl (w.heap.size + 2) { cv with a := ⟨A3, _, k3⟩ } _ (arr_size _) rfl rfl HF5.out.zb ?_; intro w6 hb5 hg5 hs5; have HC5 := Lib.hid hb5; have HB5 := Lib.hid (HF5.out.ret hg5); have HR5 := Lib.hid (HR4.out.grown hg5 HF5.out.zb (by decide)); clear hb5 hg5 hs5))
      (try simp only [Exit.inBlock, Exit.then])
      refine bodyPost_ret (res_row (α := Cv) Tryz.results77 _ _ (w.heap.size + 2) { cv with a := ⟨A3, _, k3⟩ } (.bool true) rfl rfl HC5.out) rfl ?_
      exact ⟨_, rfl, ⟨HR5.out.mono (Nat.zero_le _), HCA.out.fs.below HB5.out, HCA.out.ns.below HB5.out, HCA.out.bs.below HB5.out⟩, HB5.out⟩
end Go.Proofs.YtokhnbdhcehonaaGreat
