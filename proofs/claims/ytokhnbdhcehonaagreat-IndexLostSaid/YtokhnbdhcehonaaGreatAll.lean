/- index: All. -/
import Derived.Test.YtokhnbdhcehonaaGreatAppL
set_option linter.unusedSimpArgs false
set_option linter.unusedVariables false
namespace Go.Proofs.YtokhnbdhcehonaaGreat
open Go Go.RowKit Row
set_option maxRecDepth 100000
/-- the boxes of a call of All: the cache's, the result's, what has come of it -/
structure Fa (w wq : World) (cv dv : Cv) : Prop where
  bl : Below w.heap.size w wq
  cb : wq.heap[w.heap.size]? = some (.cells (arr cv) 30)
  zb : wq.heap[w.heap.size + 1]? = some (.cells (arr (RowT.z : Cv)) (RowT.T Cv))
  ob : wq.heap[w.heap.size + 2]? = some (.cells (arr dv) (RowT.T Cv))
abbrev W3a (w : World) (cv : Cv) : World := ((w.alloc (.cells (arr cv) 30)).alloc (.cells (arr (RowT.z : Cv)) (RowT.T Cv))).alloc (.cells (arr cv) (RowT.T Cv))
section
variable {w wq w' : World} {cv dv dv' : Cv}
theorem Fa.start (w : World) (cv : Cv) : Fa w (W3a w cv) cv cv :=
  ⟨by go_grown, heap_old_at (heap_old_at (heap_alloc_new _ _)), heap_old_at (heap_new_at _ _ (alloc_size _ _)), heap_new_at _ _ (by rw [alloc_size, alloc_size])⟩
theorem Fa.below (h : Fa w wq cv dv) (hb : Below wq.heap.size wq w') : Fa w w' cv dv :=
  ⟨h.bl.trans (hb.mono h.bl.size), (hb.block _ (heap_lt h.cb)).trans h.cb, (hb.block _ (heap_lt h.zb)).trans h.zb, (hb.block _ (heap_lt h.ob)).trans h.ob⟩
theorem Fa.cell (h : Fa w wq cv dv) (hc : w'.heap[w.heap.size + 2]? = some (.cells (arr dv') (RowT.T Cv))) (hg : wq.grownBy w' (some (w.heap.size + 2))) : Fa w w' cv dv' :=
  ⟨h.bl.grown hg h.bl.size (fun j hj => by cases hj; omega), (hg.block _ (heap_lt h.cb) (by simp)).trans h.cb, (hg.block _ (heap_lt h.zb) (by simp)).trans h.zb, hc⟩
theorem Fa.ret (h : Fa w wq cv dv) (hg : wq.grownBy w' (some (w.heap.size + 1))) : Below w.heap.size w w' := h.bl.grown hg h.bl.size (fun j hj => by cases hj; omega)
theorem CaAt.grown {c : Ca} {k : Nat} {C : Array Value} (h : CaAt w cv c) (hg : w.grownBy w' (some k)) (hk : w.heap[k]? = some (.cells C 30)) : CaAt w' cv c :=
  ⟨h.hs.grown hg hk (by decide), h.fs.grown hg hk (by decide), h.ns.grown hg hk (by decide), h.bs.grown hg hk (by decide)⟩
end
set_option maxHeartbeats 16000000 in
theorem all_any {c : Ca} {cv : Cv} {w : World} (h : CaAt w cv c) (hf : Few c 900) (hr : Rises c) {l : List Ch} {v : Value} (hl : Rs w 0 v l) (hlen : l.length ≤ 50) :
    Calls Tryz.prog 12 #[.agg (arr cv), v] w fun r w' => ∃ cv', r = .returned (.tuple #[.agg (arr cv'), .bool (goC c l).isSome]) ∧ CaAt w' cv' ((goC c l).getD c) ∧ Below w.heap.size w w' := by
  obtain ⟨A, cap, hv, hlc, hcap⟩ := hl.any
  subst hv
  have HF0 := Lib.hid (Fa.start w cv)
  have HCA := Lib.hid h
  have HC0 := Lib.hid (h.below (Fa.start w cv).bl)
  have HRI := Lib.hid hr
  have HFE := Lib.hid hf
  have HL := Lib.hid hl
  clear h hf hr hl
  obtain ⟨P, hP⟩ : ∃ P, P = goC c l := ⟨_, rfl⟩
  rw [← hP]
  have HP := Lib.hid hP
  clear hP
  have hm63 : maxLen = 9223372036854775807 := rfl
  go_enter Tryz.func12, Tryz.ntmps12
  go_wp2_with (first
      | (refine rw_put (α := Cv) _ 6 (.tmp 11) rfl rfl rfl rfl rfl rfl cv rfl rfl ?_)
      | (refine rw_alloc (α := Cv) rfl rfl ?_)
      | (refine rw_load (α := Cv) rfl (.tmp 2) rfl w.heap.size 0 rfl cv (range_row (heap_old_at (heap_alloc_new _ _))) ?_))
  go_loopw [14] (fun i wq => ∃ k : Nat, k ≤ l.length ∧ i = .int .i64 k ∧ ∃ (dv : Cv) (d : Ca), goC c (l.take k) = some d ∧ CaAt wq dv d ∧ Fa w wq cv dv) (fun i _ => l.length - (intOf i).toNat)
  case atStart => exact ⟨0, by omega, rfl, cv, c, rfl, HC0.out, HF0.out⟩
  case round =>
    obtain ⟨k, hk, rfl, dv, d, hd, hca, hfa⟩ := hrel
    have HD := Lib.hid hd
    have HC := Lib.hid hca
    have HF := Lib.hid hfa
    clear hd hca hfa
    by_cases hlt : k < l.length
    · have hltI : (k : Int) < (l.length : Int) := by omega
      obtain ⟨b, off, cap', he, _, _⟩ := HL.out.shape (by omega)
      cases he
      have HE := Lib.hid (rangeAt_below (HL.out.range hlt) (HL.out.lt b rfl) HF.out.bl)
      have HFX := Lib.hid (HF.out.below (bel_box (o := .cells (arr l[k]) (RowT.T Ch))))
      have HN := Lib.hid (heap_alloc_new wr (.cells (arr l[k]) (RowT.T Ch)))
      have HAP := Lib.hid (apply_any (HC.out.below (bel_box (o := .cells (arr l[k]) (RowT.T Ch)))) ((goC_few HFE.out HD.out).up (by rw [List.length_take]; omega)) (goC_rises HRI.out HD.out) l[k])
      have HST := Lib.hid (fun hx => goC_step (l := l) (k := k) hlt HD.out hx)
      have HSP := Lib.hid (fun hx => HP.out.trans (goC_stop (l := l) (k := k) hlt HD.out hx))
      generalize apC d l[k] = D at HAP HST HSP
      generalize l[k] = x at *
      obtain ⟨d1, d2⟩ := D
      go_wp2_with (first
        | (refine rw_put (α := Ch) _ 8 (.tmp 17) rfl rfl rfl rfl rfl rfl x rfl rfl ?_)
        | (refine rw_load (α := Ch) rfl (.tmp 16) rfl b (off + k * 18) rfl x HE.out ?_)
        | (refine rw_load (α := Cv) rfl (.tmp 6) rfl (w.heap.size + 2) 0 rfl dv (range_row HFX.out.ob) ?_)
        | (refine rw_load (α := Ch) rfl (.tmp 8) rfl wr.heap.size 0 rfl x (range_row HN.out) ?_))
      refine HAP.out.mono ?_
      rintro r w3 ⟨cv', rfl, hca', hb3⟩
      have HC3 := Lib.hid (hca'.below (bel_box (o := .cells (arr cv') 30)))
      have HF3 := Lib.hid ((HFX.out.below hb3).below (bel_box (o := .cells (arr cv') 30)))
      have HN3 := Lib.hid (heap_alloc_new w3 (.cells (arr cv') 30))
      clear hb3 hca' HAP
      cases d2 with
      | true =>
        have HS2 := Lib.hid (HST.out rfl)
        clear HST
        clear HSP
        go_wp2_with (first
          | (refine rw_put (α := Cv) _ 9 (.tmp 22) rfl rfl rfl rfl rfl rfl cv' rfl rfl ?_)
          | (refine rw_load (α := Cv) rfl (.tmp 9) rfl w3.heap.size 0 rfl cv' (range_row HN3.out) ?_)
          | (refine rw_store (α := Cv) rfl (.tmp 6) (.tmp 27) rfl (w.heap.size + 2) cv' _ (arr_size _) rfl rfl HF3.out.ob ?_; intro w5 hb5 hg5 hs5; have HF5 := Lib.hid (HF3.out.cell hb5 hg5); have HC5 := Lib.hid (HC3.out.grown hg5 HF3.out.ob); clear hb5 hg5 hs5))
        go_roundw
        case rel => exact ⟨k + 1, by omega, by go_num, cv', d1, HS2.out, HC5.out, HF5.out⟩
        case measure => simp [intOf]; omega
      | false =>
        obtain rfl := HSP.out rfl
        clear HST HSP
        go_wp2_with (first
          | (refine rw_put (α := Cv) _ 9 (.tmp 22) rfl rfl rfl rfl rfl rfl cv' rfl rfl ?_)
          | (refine rw_load (α := Cv) rfl (.tmp 2) rfl w.heap.size 0 rfl cv (range_row HF3.out.cb) ?_)
          | (refine rw_store (α := Cv) rfl (.tmp 4) (.tmp 26) rfl (w.heap.size + 1) cv _ (arr_size _) rfl rfl HF3.out.zb ?_; intro w5 hb5 hg5 hs5; have HC5 := Lib.hid hb5; have HB5 := Lib.hid (HF3.out.ret hg5); clear hb5 hg5 hs5))
        (try simp only [Exit.inBlock, Exit.then])
        refine bodyPost_ret (res_row (α := Cv) Tryz.results12 _ _ (w.heap.size + 1) cv (.bool false) rfl rfl HC5.out) rfl ?_
        exact ⟨_, rfl, HCA.out.below HB5.out, HB5.out⟩
    · have hltI : ¬ (k : Int) < (l.length : Int) := by omega
      obtain rfl : k = l.length := by omega
      have hd' := HD.out
      rw [List.take_length] at hd'
      obtain rfl := HP.out.trans hd'
      clear hd'
      go_wp2_with (first
          | (refine rw_load (α := Cv) rfl (.tmp 6) rfl (w.heap.size + 2) 0 rfl dv (range_row HF.out.ob) ?_)
          | (refine rw_store (α := Cv) rfl (.tmp 4) (.tmp 29) rfl (w.heap.size + 1) dv _ (arr_size _) rfl rfl HF.out.zb ?_; intro w5 hb5 hg5 hs5; have HC5 := Lib.hid hb5; have HB5 := Lib.hid (HF.out.ret hg5); have HC6 := Lib.hid (HC.out.grown hg5 HF.out.zb); clear hb5 hg5 hs5))
      (try simp only [Exit.inBlock, Exit.then])
      refine bodyPost_ret (res_row (α := Cv) Tryz.results12 _ _ (w.heap.size + 1) dv (.bool true) rfl rfl HC5.out) rfl ?_
      exact ⟨_, rfl, HC6.out, HB5.out⟩
end Go.Proofs.YtokhnbdhcehonaaGreat
