/- index: files. -/
import Derived.Test.YtokhnbdhcehonaaGreatHand
set_option linter.unusedSimpArgs false
set_option linter.unusedVariables false
namespace Go.Proofs.YtokhnbdhcehonaaGreat
open Go Go.RowKit Row
set_option maxRecDepth 100000
def filesC (c : Ca) (x : Ch) : Ca × Bool :=
  if x.k = 3 then ({ c with fs := put kF lF c.fs ⟨x.up, x.a⟩ }, true)
  else if x.k = 4 then (bareC { c with fs := del kF c.fs x.up } x.up, (find kF c.fs x.up).isSome)
  else (bareC c x.up, (find kF c.fs x.up).isSome)
theorem foldl_from : ∀ (L : List Value) (o m : Nat) (Z : Array Value), (L.zipIdx o).foldl (fun cs (x : Value × Nat) => cs.setIfInBounds (m + x.2) x.1) Z = overl Z (m + o) L
  | [], _, _, _ => rfl
  | v :: L, o, m, Z => by
    rw [List.zipIdx_cons, List.foldl_cons, foldl_from L (o + 1) m _, overl]
    congr 1
theorem build_fl (u : ByteArray) (a : At) : List.foldl (fun (cs : Array Value) (x : Value × Nat) => cs.setIfInBounds (1 + x.2) x.1) #[.string u, .int .i64 0, .int .i64 0, .int .i64 0, .int .i64 0, .int .i64 0, .int .i64 0, .int .i64 0, .int .i64 0, .int .i64 0, .int .i64 0] (cells a).zipIdx = arr (⟨u, a⟩ : Fl) := by
  rw [foldl_from]
  apply Array.ext'
  show (overl _ 1 (At.cells a)).toList = _
  simp only [At.cells, overl, List.setIfInBounds_toArray, List.set_cons_succ, List.set_cons_zero]
  rfl
theorem filter_few {α : Type} (p : α → Bool) {l : List α} {m : Nat} (h : l.length ≤ m) : (l.filter p).length ≤ m := Nat.le_trans (List.length_filter_le _ _) h
theorem Few.up {c : Ca} {m k : Nat} (h : Few c m) (hk : m ≤ k) : Few c k := ⟨Nat.le_trans h.hs hk, Nat.le_trans h.fs hk, Nat.le_trans h.ns hk, Nat.le_trans h.bs hk⟩
set_option maxHeartbeats 16000000 in
theorem files_any {c : Ca} {cv : Cv} {w : World} (h : CaAt w cv c) (hf : Few c 999) (hs : Srt kF lF c.fs) (x : Ch) :
    Calls Tryz.prog 78 #[.agg (arr cv), .agg (arr x)] w fun r w' => ∃ cv', r = .returned (.tuple #[.agg (arr cv'), .bool (filesC c x).2]) ∧ CaAt w' cv' (filesC c x).1 ∧ Below w.heap.size w w' := by
  have hF0 := Fr.start w cv x
  obtain ⟨⟨-, -, -, x3⟩, -⟩ := ch_cells hF0.xb
  have HH := Lib.hid (file_any (h.below hF0.bl) hs x.up)
  have HCA := Lib.hid h
  have HFW := Lib.hid hf
  have HSR := Lib.hid hs
  have HF0 := Lib.hid hF0
  clear h hf hs hF0
  obtain ⟨P, hP⟩ : ∃ P, P = filesC c x := ⟨_, rfl⟩
  rw [← hP]
  obtain ⟨th, hth⟩ : ∃ th, th = (find kF c.fs x.up).isSome := ⟨_, rfl⟩
  rw [← hth] at HH
  have HP : Hid (P = if x.k = 3 then ({ c with fs := put kF lF c.fs ⟨x.up, x.a⟩ }, true) else if x.k = 4 then (bareC { c with fs := del kF c.fs x.up } x.up, th) else (bareC c x.up, th)) := Lib.hid (by rw [hP, hth]; rfl)
  clear hP hth
  generalize ((find kF c.fs x.up).getD RowT.z).a = ya at HH
  go_enter Tryz.func78, Tryz.ntmps78
  go_wp2_with (first
    | (refine rw_alloc (α := Cv) rfl rfl ?_)
    | (refine rw_load (α := Cv) rfl (.tmp 2) rfl w.heap.size 0 rfl cv (range_row HF0.out.cb) ?_))
  refine HH.out.mono ?_
  rintro r w2 ⟨rfl, hb2⟩
  have HF2 := Lib.hid ((HF0.out.below hb2).below (bel_box (o := .cells (arr ya) (RowT.T At))))
  obtain ⟨⟨x0, -, -, x3⟩, -⟩ := ch_cells HF2.out.xb
  have c1 := (cv_cells HF2.out.cb).2.1
  have HA : Hid ((w2.alloc (.cells (arr ya) (RowT.T At))).rangeAt (w.heap.size + 1) 6 (cells x.a)) := Lib.hid (fun j u hu => by
    rw [row_cell HF2.out.xb]
    have hj : j < 10 := (List.getElem?_eq_some_iff.1 hu).1
    have : (arr x)[6 + j]? = (cells x.a)[j]? := by
      have e : j = 0 ∨ j = 1 ∨ j = 2 ∨ j = 3 ∨ j = 4 ∨ j = 5 ∨ j = 6 ∨ j = 7 ∨ j = 8 ∨ j = 9 := by omega
      rcases e with rfl | rfl | rfl | rfl | rfl | rfl | rfl | rfl | rfl | rfl <;> rfl
    rw [this]; exact hu)
  clear hb2 HH
  by_cases hk : x.k = 3
  · have hk3 : (x.k == 3) = true := by simp [hk]
    obtain rfl := HP.out.trans (if_pos hk)
    have HWI := Lib.hid (wi_Fl (⟨x.up, x.a⟩ : Fl) HSR.out (HCA.out.fs.below HF2.out.bl) HFW.out.fs)
    clear hk
    have hca : (cells x.a).length = 10 := Row.len x.a
    go_wp2_with (first
      | (refine rw_put (α := At) _ 6 (.tmp 13) rfl rfl rfl rfl rfl rfl ya rfl rfl ?_)
      | (refine rw_load (α := At) rfl (.tmp 23) rfl (w.heap.size + 1) 6 rfl x.a HA.out ?_))
    rw [build_fl]
    refine HWI.out.mono ?_
    rintro r w3 ⟨v3, rfl, hr3, hb3⟩
    obtain ⟨A3, k3, hv3, _, _⟩ := hr3.any
    subst hv3
    have HR3 := Lib.hid hr3
    have HF3 := Lib.hid (HF2.out.below hb3)
    clear hr3 hb3 HWI c1 x0 x3
    go_wp2_with (first
      | (refine rw_cell (α := Cv) rfl 26 (.tmp 27) (.tmp 26) rfl w.heap.size 1 cv { cv with b := ⟨A3, _, k3⟩ } (.slice A3 _ k3) rfl rfl HF3.out.cb (by decide) rfl rfl size26 ?_; intro w4 hb4 hg4 hs4; have HF4 := Lib.hid (HF3.out.cell (cv' := { cv with b := ⟨A3, _, k3⟩ }) hb4 hg4); have HR4 := Lib.hid (HR3.out.grown hg4 HF3.out.cb (by decide)); clear hb4 hg4 hs4)
      | (refine rw_load (α := Cv) rfl (.tmp 2) rfl w.heap.size 0 rfl { cv with b := ⟨A3, _, k3⟩ } (range_row HF4.out.cb) ?_)
      | (refine rw_store (α := Cv) rfl (.tmp 4) (.tmp 28) rfl (w.heap.size + 2) { cv with b := ⟨A3, _, k3⟩ } _ (arr_size _) rfl rfl HF4.out.zb ?_; intro w5 hb5 hg5 hs5; have HC5 := Lib.hid hb5; have HB5 := Lib.hid (HF4.out.ret hg5); have HR5 := Lib.hid (HR4.out.grown hg5 HF4.out.zb (by decide)); clear hb5 hg5 hs5))
    (try simp only [Exit.inBlock, Exit.then])
    refine bodyPost_ret (res_row (α := Cv) Tryz.results78 _ _ (w.heap.size + 2) { cv with b := ⟨A3, _, k3⟩ } (.bool true) rfl rfl HC5.out) rfl ?_
    exact ⟨_, rfl, ⟨HCA.out.hs.below HB5.out, HR5.out.mono (Nat.zero_le _), HCA.out.ns.below HB5.out, HCA.out.bs.below HB5.out⟩, HB5.out⟩
  · have hk3 : (x.k == 3) = false := by simp [hk]
    have HP2 := Lib.hid (HP.out.trans (if_neg hk))
    clear hk HP
    by_cases hk : x.k = 4
    · have hk4 : (x.k == 4) = true := by simp [hk]
      obtain rfl := HP2.out.trans (if_pos hk)
      have HWO := Lib.hid (show Calls _ _ _ _ fun e w' => ∃ v', e = .returned v' ∧ Rs w' (w2.alloc (.cells (arr ya) (RowT.T At))).heap.size v' (del kF c.fs x.up) ∧ Below (w2.alloc (.cells (arr ya) (RowT.T At))).heap.size (w2.alloc (.cells (arr ya) (RowT.T At))) w' from wo_Fl (HCA.out.fs.below HF2.out.bl) (Nat.le_trans HFW.out.fs (by decide)) (files1_pb x HF2.out.xb (heap_lt HF2.out.xb)))
      clear hk
      go_wp2_with (refine rw_put (α := At) _ 6 (.tmp 13) rfl rfl rfl rfl rfl rfl ya rfl rfl ?_)
      refine HWO.out.mono ?_
      rintro r w3 ⟨v3, rfl, hr3, hb3⟩
      obtain ⟨A3, k3, hv3, _, _⟩ := hr3.any
      subst hv3
      have HR3 := Lib.hid hr3
      have HF3 := Lib.hid (HF2.out.below hb3)
      clear hr3 hb3 HWO c1 x0 x3
      go_wp2_with (first
        | (refine rw_cell (α := Cv) rfl 26 (.tmp 35) (.tmp 34) rfl w.heap.size 1 cv { cv with b := ⟨A3, _, k3⟩ } (.slice A3 _ k3) rfl rfl HF3.out.cb (by decide) rfl rfl size26 ?_; intro w4 hb4 hg4 hs4; have HF4 := Lib.hid (HF3.out.cell (cv' := { cv with b := ⟨A3, _, k3⟩ }) hb4 hg4); have HR4 := Lib.hid (HR3.out.grown hg4 HF3.out.cb (by decide)); obtain ⟨⟨-, -, -, x3⟩, -⟩ := ch_cells (HF3.out.cell (cv' := { cv with b := ⟨A3, _, k3⟩ }) hb4 hg4).xb; clear hb4 hg4 hs4)
        | (refine rw_load (α := Cv) rfl (.tmp 2) rfl w.heap.size 0 rfl { cv with b := ⟨A3, _, k3⟩ } (range_row HF4.out.cb) ?_))
      have HC4 : Hid (CaAt w4 { cv with b := ⟨A3, _, k3⟩ } { c with fs := del kF c.fs x.up }) := Lib.hid ⟨HCA.out.hs.below HF4.out.bl, HR4.out.mono (Nat.zero_le _), HCA.out.ns.below HF4.out.bl, HCA.out.bs.below HF4.out.bl⟩
      refine (bare_any HC4.out ⟨Nat.le_trans HFW.out.hs (by decide), filter_few _ (Nat.le_trans HFW.out.fs (by decide)), Nat.le_trans HFW.out.ns (by decide), Nat.le_trans HFW.out.bs (by decide)⟩ x.up).mono ?_
      rintro r w5 ⟨cv5, rfl, hc5, hb5⟩
      have HF5 := Lib.hid (HF4.out.below hb5)
      have HCA5 := Lib.hid hc5
      clear hc5 hb5
      go_wp2_with (refine rw_store (α := Cv) rfl (.tmp 4) (.tmp 39) rfl (w.heap.size + 2) cv5 _ (arr_size _) rfl rfl HF5.out.zb ?_; intro w6 hb6 hg6 hs6; have HC6 := Lib.hid hb6; have HB6 := Lib.hid (HF5.out.ret hg6); have HCA6 : Hid (CaAt w6 cv5 _) := Lib.hid ⟨HCA5.out.hs.grown hg6 HF5.out.zb (by decide), HCA5.out.fs.grown hg6 HF5.out.zb (by decide), HCA5.out.ns.grown hg6 HF5.out.zb (by decide), HCA5.out.bs.grown hg6 HF5.out.zb (by decide)⟩; clear hb6 hg6 hs6)
      (try simp only [Exit.inBlock, Exit.then])
      refine bodyPost_ret (res_row (α := Cv) Tryz.results78 _ _ (w.heap.size + 2) cv5 (.bool th) rfl rfl HC6.out) rfl ?_
      exact ⟨_, rfl, HCA6.out, HB6.out⟩
    · have hk4 : (x.k == 4) = false := by simp [hk]
      obtain rfl := HP2.out.trans (if_neg hk)
      clear hk
      go_wp2_with (first
        | (refine rw_put (α := At) _ 6 (.tmp 13) rfl rfl rfl rfl rfl rfl ya rfl rfl ?_)
        | (refine rw_load (α := Cv) rfl (.tmp 2) rfl w.heap.size 0 rfl cv (range_row HF2.out.cb) ?_))
      refine (bare_any (HCA.out.below HF2.out.bl) (HFW.out.up (by decide)) x.up).mono ?_
      rintro r w5 ⟨cv5, rfl, hc5, hb5⟩
      have HF5 := Lib.hid (HF2.out.below hb5)
      have HCA5 := Lib.hid hc5
      clear hc5 hb5 c1 x0 x3
      go_wp2_with (refine rw_store (α := Cv) rfl (.tmp 4) (.tmp 39) rfl (w.heap.size + 2) cv5 _ (arr_size _) rfl rfl HF5.out.zb ?_; intro w6 hb6 hg6 hs6; have HC6 := Lib.hid hb6; have HB6 := Lib.hid (HF5.out.ret hg6); have HCA6 : Hid (CaAt w6 cv5 _) := Lib.hid ⟨HCA5.out.hs.grown hg6 HF5.out.zb (by decide), HCA5.out.fs.grown hg6 HF5.out.zb (by decide), HCA5.out.ns.grown hg6 HF5.out.zb (by decide), HCA5.out.bs.grown hg6 HF5.out.zb (by decide)⟩; clear hb6 hg6 hs6)
      (try simp only [Exit.inBlock, Exit.then])
      refine bodyPost_ret (res_row (α := Cv) Tryz.results78 _ _ (w.heap.size + 2) cv5 (.bool th) rfl rfl HC6.out) rfl ?_
      exact ⟨_, rfl, HCA6.out, HB6.out⟩
end Go.Proofs.YtokhnbdhcehonaaGreat
