/- index: the document's Apply. -/
import Derived.Test.YtokhnbdhcehonaaGreatGoes
import Derived.Test.YtokhnbdhcehonaaGreatPuts
import Derived.Test.YtokhnbdhcehonaaGreatRChks
set_option linter.unusedSimpArgs false
set_option linter.unusedVariables false
namespace Go.Proofs.YtokhnbdhcehonaaGreat
open Go Go.RowKit Row
set_option maxRecDepth 100000
theorem plc_find {α κ : Type} [DecidableEq κ] (k : α → κ) (l : List α) (q : κ) : (∃ i : Nat, plc (fun y => decide (k y = q)) l = i ∧ (find k l q).isSome = true) ∨ (plc (fun y => decide (k y = q)) l = -1 ∧ (find k l q).isSome = false ∧ ∀ y ∈ l, k y ≠ q) := by
  rcases plc_cases (fun y => decide (k y = q)) l with ⟨i, hi, hpi, he, -⟩ | ⟨hpi, hno⟩
  · refine .inl ⟨i, hpi, ?_⟩
    cases hh : find k l q with
    | none => exact absurd (by simpa using he) (find_none.1 hh _ (List.getElem_mem hi))
    | some y => rfl
  · have hn : ∀ y ∈ l, k y ≠ q := fun y hy => by simpa using hno y hy
    exact .inr ⟨hpi, by rw [find_none.2 hn]; rfl, hn⟩
set_option maxHeartbeats 16000000 in
theorem rap_no {c : Ca} {cv : Cv} {w : World} (h : CaAt w cv c) (x : Ch) (hck : chkR x = false) : Calls Tryz.prog 33 #[.agg (arr cv), .agg (arr x)] w (GoV c false w) := by
  have HF0 := Lib.hid (Fr.start w cv x)
  have hCK := rcheck_any x (W3 w cv x)
  rw [hck] at hCK
  have HCK := Lib.hid hCK
  have HCA := Lib.hid h
  clear h hck hCK
  have hm63 : maxLen = 9223372036854775807 := rfl
  go_enter Tryz.func33, Tryz.ntmps33
  go_wp2_with (first
    | (refine rw_alloc (α := Cv) rfl rfl ?_)
    | (refine rw_load (α := Ch) rfl (.tmp 3) rfl (w.heap.size + 1) 0 rfl x (range_row HF0.out.xb) ?_))
  refine HCK.out.mono ?_
  rintro r w1 ⟨rfl, hb1⟩
  have HF1 := Lib.hid (HF0.out.below hb1)
  obtain ⟨⟨x0, x1, x2, x3⟩, x4, x5, x7, x8⟩ := ch_cells HF1.out.xb
  obtain ⟨c0, c1, c2, c3⟩ := cv_cells HF1.out.cb
  clear hb1 HCK
  clear x0 x1 x2 x3 x4 x5 x7 x8 c0 c1 c2 c3
  go_wp2_with (first
    | (refine rw_load (α := Cv) rfl (.tmp 2) rfl w.heap.size 0 rfl cv (range_row HF1.out.cb) ?_)
    | (refine rw_store (α := Cv) rfl (.tmp 4) (.tmp 9) rfl (w.heap.size + 2) cv _ (arr_size _) rfl rfl HF1.out.zb ?_; intro w6 hb6 hg6 hs6; have HC6 := Lib.hid hb6; have HB6 := Lib.hid (HF1.out.ret hg6); clear hb6 hg6 hs6))
  (try simp only [Exit.inBlock, Exit.then])
  refine bodyPost_ret (res_row (α := Cv) Tryz.results33 _ _ (w.heap.size + 2) cv (.bool false) rfl rfl HC6.out) rfl ?_
  exact ⟨_, rfl, HCA.out.below HB6.out, HB6.out⟩
set_option maxHeartbeats 16000000 in
theorem rap_1 {c : Ca} {cv : Cv} {w : World} (h : CaAt w cv c) (hf : Few c 980) (hr : Rises c) (x : Ch) (hck : chkR x = true) (hk : x.k = 1) :
    Calls Tryz.prog 33 #[.agg (arr cv), .agg (arr x)] w (GoV (dooC c x).1 (dooC c x).2 w) := by
  have HF0 := Lib.hid (Fr.start w cv x)
  have hCK := rcheck_any x (W3 w cv x)
  rw [hck] at hCK
  have HCK := Lib.hid hCK
  have HCA := Lib.hid h
  have HFW := Lib.hid hf
  have HRI := Lib.hid hr
  have hk1 : (x.k == 1) = true := by simp [hk]
  have hm63 : maxLen = 9223372036854775807 := rfl
  have hd : doC c x = (if (find kU c.hs x.up).isSome = true ∨ (find kH c.hs (x.e, x.s)).isSome = true then (c, false) else ({ c with hs := put kH lH c.hs ⟨x.e, x.s, x.up⟩ }, true)) := by
    unfold doC handlesC
    rw [if_pos (by omega), if_neg (by omega)]
  clear h hf hr hck hCK hk
  rcases plc_find kH c.hs (x.e, x.s) with ⟨i, hp, hfs⟩ | ⟨hp, hfs, hno⟩
  · rw [if_pos (.inr hfs)] at hd
    rw [dooC_of c x _ _ hd, if_neg (by decide)]
    clear hd
    have HP := Lib.hid (fun W (hW : Below w.heap.size w W) => hp ▸ pheld_any (HCA.out.hs.below hW) x.e x.s)
    have hi0 : decide ((0 : Int) ≤ (i : Int)) = true := decide_eq_true (by omega)
    clear hp hfs
    go_enter Tryz.func33, Tryz.ntmps33
    go_wp2_with (first
      | (refine rw_alloc (α := Cv) rfl rfl ?_)
      | (refine rw_load (α := Ch) rfl (.tmp 3) rfl (w.heap.size + 1) 0 rfl x (range_row HF0.out.xb) ?_))
    refine HCK.out.mono ?_
    rintro r w1 ⟨rfl, hb1⟩
    have HF1 := Lib.hid (HF0.out.below hb1)
    obtain ⟨⟨x0, x1, x2, x3⟩, x4, x5, x7, x8⟩ := ch_cells HF1.out.xb
    obtain ⟨c0, c1, c2, c3⟩ := cv_cells HF1.out.cb
    clear hb1 HCK
    have HP1 := Lib.hid (HP.out w1 HF1.out.bl)
    clear HP
    go_wp2_with fail
    refine HP1.out.mono ?_
    rintro r w2 ⟨rfl, hb2⟩
    have HF2 := Lib.hid (HF1.out.below hb2)
    clear hb2 HP1
    clear x0 x1 x2 x3 x4 x5 x7 x8 c0 c1 c2 c3
    go_wp2_with (first
      | (refine rw_load (α := Cv) rfl (.tmp 2) rfl w.heap.size 0 rfl cv (range_row HF2.out.cb) ?_)
      | (refine rw_store (α := Cv) rfl (.tmp 4) (.tmp 35) rfl (w.heap.size + 2) cv _ (arr_size _) rfl rfl HF2.out.zb ?_; intro w6 hb6 hg6 hs6; have HC6 := Lib.hid hb6; have HB6 := Lib.hid (HF2.out.ret hg6); clear hb6 hg6 hs6))
    (try simp only [Exit.inBlock, Exit.then])
    refine bodyPost_ret (res_row (α := Cv) Tryz.results33 _ _ (w.heap.size + 2) cv (.bool false) rfl rfl HC6.out) rfl ?_
    exact ⟨_, rfl, HCA.out.below HB6.out, HB6.out⟩
  · have HNO := Lib.hid hno
    have HP := Lib.hid (fun W (hW : Below w.heap.size w W) => hp ▸ pheld_any (HCA.out.hs.below hW) x.e x.s)
    clear hp hno
    rcases plc_find kU c.hs x.up with ⟨i, hp, hfu⟩ | ⟨hp, hfu, -⟩
    · rw [if_pos (.inl hfu)] at hd
      rw [dooC_of c x _ _ hd, if_neg (by decide)]
      have HQ := Lib.hid (fun W (hW : Below w.heap.size w W) => hp ▸ pissued_any (HCA.out.hs.below hW) x.up)
      have hi0 : decide ((0 : Int) ≤ (i : Int)) = true := decide_eq_true (by omega)
      clear hd hp hfs hfu
      go_enter Tryz.func33, Tryz.ntmps33
      go_wp2_with (first
        | (refine rw_alloc (α := Cv) rfl rfl ?_)
        | (refine rw_load (α := Ch) rfl (.tmp 3) rfl (w.heap.size + 1) 0 rfl x (range_row HF0.out.xb) ?_))
      refine HCK.out.mono ?_
      rintro r w1 ⟨rfl, hb1⟩
      have HF1 := Lib.hid (HF0.out.below hb1)
      obtain ⟨⟨x0, x1, x2, x3⟩, x4, x5, x7, x8⟩ := ch_cells HF1.out.xb
      obtain ⟨c0, c1, c2, c3⟩ := cv_cells HF1.out.cb
      clear hb1 HCK
      have HP1 := Lib.hid (HP.out w1 HF1.out.bl)
      clear HP
      go_wp2_with fail
      refine HP1.out.mono ?_
      rintro r w2 ⟨rfl, hb2⟩
      have HF2 := Lib.hid (HF1.out.below hb2)
      have HQ1 := Lib.hid (HQ.out w2 HF2.out.bl)
      clear hb2 HP1 HQ
      clear x0 x1 x2 x3 x4 x5 x7 x8 c0 c1 c2 c3
      obtain ⟨⟨x0, x1, x2, x3⟩, x4, x5, x7, x8⟩ := ch_cells HF2.out.xb
      obtain ⟨c0, c1, c2, c3⟩ := cv_cells HF2.out.cb
      go_wp2_with fail
      refine HQ1.out.mono ?_
      rintro r w3 ⟨rfl, hb3⟩
      have HF3 := Lib.hid (HF2.out.below hb3)
      clear hb3 HQ1
      clear x0 x1 x2 x3 x4 x5 x7 x8 c0 c1 c2 c3
      go_wp2_with (first
        | (refine rw_load (α := Cv) rfl (.tmp 2) rfl w.heap.size 0 rfl cv (range_row HF3.out.cb) ?_)
        | (refine rw_store (α := Cv) rfl (.tmp 4) (.tmp 35) rfl (w.heap.size + 2) cv _ (arr_size _) rfl rfl HF3.out.zb ?_; intro w6 hb6 hg6 hs6; have HC6 := Lib.hid hb6; have HB6 := Lib.hid (HF3.out.ret hg6); clear hb6 hg6 hs6))
      (try simp only [Exit.inBlock, Exit.then])
      refine bodyPost_ret (res_row (α := Cv) Tryz.results33 _ _ (w.heap.size + 2) cv (.bool false) rfl rfl HC6.out) rfl ?_
      exact ⟨_, rfl, HCA.out.below HB6.out, HB6.out⟩
    · rw [if_neg (by rw [hfs, hfu]; simp)] at hd
      rw [dooC_of c x _ _ hd, if_pos rfl]
      have HQ := Lib.hid (fun W (hW : Below w.heap.size w W) => hp ▸ pissued_any (HCA.out.hs.below hW) x.up)
      clear hd hp hfs hfu
      go_enter Tryz.func33, Tryz.ntmps33
      go_wp2_with (first
        | (refine rw_alloc (α := Cv) rfl rfl ?_)
        | (refine rw_load (α := Ch) rfl (.tmp 3) rfl (w.heap.size + 1) 0 rfl x (range_row HF0.out.xb) ?_))
      refine HCK.out.mono ?_
      rintro r w1 ⟨rfl, hb1⟩
      have HF1 := Lib.hid (HF0.out.below hb1)
      obtain ⟨⟨x0, x1, x2, x3⟩, x4, x5, x7, x8⟩ := ch_cells HF1.out.xb
      obtain ⟨c0, c1, c2, c3⟩ := cv_cells HF1.out.cb
      clear hb1 HCK
      have HP1 := Lib.hid (HP.out w1 HF1.out.bl)
      clear HP
      go_wp2_with fail
      refine HP1.out.mono ?_
      rintro r w2 ⟨rfl, hb2⟩
      have HF2 := Lib.hid (HF1.out.below hb2)
      have HQ1 := Lib.hid (HQ.out w2 HF2.out.bl)
      clear hb2 HP1 HQ
      clear x0 x1 x2 x3 x4 x5 x7 x8 c0 c1 c2 c3
      obtain ⟨⟨x0, x1, x2, x3⟩, x4, x5, x7, x8⟩ := ch_cells HF2.out.xb
      obtain ⟨c0, c1, c2, c3⟩ := cv_cells HF2.out.cb
      go_wp2_with fail
      refine HQ1.out.mono ?_
      rintro r w3 ⟨rfl, hb3⟩
      have HF3 := Lib.hid (HF2.out.below hb3)
      have HPU := Lib.hid (putheld_any (HCA.out.hs.below HF3.out.bl) (Nat.le_trans HFW.out.hs (by decide)) HRI.out.hs ⟨x.e, x.s, x.up⟩ HNO.out)
      clear hb3 HQ1
      clear x0 x1 x2 x3 x4 x5 x7 x8 c0 c1 c2 c3
      obtain ⟨⟨x0, x1, x2, x3⟩, x4, x5, x7, x8⟩ := ch_cells HF3.out.xb
      obtain ⟨c0, c1, c2, c3⟩ := cv_cells HF3.out.cb
      go_wp2_with fail
      refine HPU.out.mono ?_
      rintro r w4 ⟨v3, rfl, hr3, hb3⟩
      obtain ⟨A3, k3, hv3, _, _⟩ := hr3.any
      subst hv3
      have HR3 := Lib.hid hr3
      have HF4 := Lib.hid (HF3.out.below hb3)
      clear hr3 hb3 HPU
      clear x0 x1 x2 x3 x4 x5 x7 x8 c0 c1 c2 c3
      go_wp2_with (first
        | (refine rw_cell (α := Cv) rfl 25 (.tmp 46) (.tmp 45) rfl w.heap.size 0 cv { cv with a := ⟨A3, _, k3⟩ } (.slice A3 _ k3) rfl rfl HF4.out.cb (by decide) rfl rfl size25 ?_; intro w5 hb4 hg4 hs4; have HF5 := Lib.hid (HF4.out.cell (cv' := { cv with a := ⟨A3, _, k3⟩ }) hb4 hg4); have HR4 := Lib.hid (HR3.out.grown hg4 HF4.out.cb (by decide)); clear hb4 hg4 hs4)
        | (refine rw_load (α := Cv) rfl (.tmp 2) rfl w.heap.size 0 rfl { cv with a := ⟨A3, _, k3⟩ } (range_row HF5.out.cb) ?_)
        | (refine rw_store (α := Cv) rfl (.tmp 4) (.tmp 101) rfl (w.heap.size + 2) { cv with a := ⟨A3, _, k3⟩ } _ (arr_size _) rfl rfl HF5.out.zb ?_; intro w6 hb6 hg6 hs6; have HC6 := Lib.hid hb6; have HB6 := Lib.hid (HF5.out.ret hg6); have HR5 := Lib.hid (HR4.out.grown hg6 HF5.out.zb (by decide)); clear hb6 hg6 hs6))
      (try simp only [Exit.inBlock, Exit.then])
      refine bodyPost_ret (res_row (α := Cv) Tryz.results33 _ _ (w.heap.size + 2) { cv with a := ⟨A3, _, k3⟩ } (.bool true) rfl rfl HC6.out) rfl ?_
      exact ⟨_, rfl, ⟨HR5.out.mono (Nat.zero_le _), HCA.out.fs.below HB6.out, HCA.out.ns.below HB6.out, HCA.out.bs.below HB6.out⟩, HB6.out⟩
set_option maxHeartbeats 16000000 in
theorem rap_3 {c : Ca} {cv : Cv} {w : World} (h : CaAt w cv c) (hf : Few c 980) (hr : Rises c) (x : Ch) (hck : chkR x = true) (hk : x.k = 3) :
    Calls Tryz.prog 33 #[.agg (arr cv), .agg (arr x)] w (GoV (dooC c x).1 (dooC c x).2 w) := by
  have HF0 := Lib.hid (Fr.start w cv x)
  have hCK := rcheck_any x (W3 w cv x)
  rw [hck] at hCK
  have HCK := Lib.hid hCK
  have HCA := Lib.hid h
  have HFW := Lib.hid hf
  have HRI := Lib.hid hr
  have hk1 : (x.k == 1) = false := by simp [hk]
  have hk3 : (x.k == 3) = true := by simp [hk]
  have hm63 : maxLen = 9223372036854775807 := rfl
  have hd : doC c x = ({ c with fs := put kF lF c.fs ⟨x.up, x.a⟩ }, true) := by
    unfold doC filesC
    rw [if_neg (by omega), if_pos (by omega), if_pos hk]
  rw [dooC_of c x _ _ hd, if_pos rfl]
  clear h hf hr hck hCK hk hd
  go_enter Tryz.func33, Tryz.ntmps33
  go_wp2_with (first
    | (refine rw_alloc (α := Cv) rfl rfl ?_)
    | (refine rw_load (α := Ch) rfl (.tmp 3) rfl (w.heap.size + 1) 0 rfl x (range_row HF0.out.xb) ?_))
  refine HCK.out.mono ?_
  rintro r w1 ⟨rfl, hb1⟩
  have HF1 := Lib.hid (HF0.out.below hb1)
  obtain ⟨⟨x0, x1, x2, x3⟩, x4, x5, x7, x8⟩ := ch_cells HF1.out.xb
  obtain ⟨c0, c1, c2, c3⟩ := cv_cells HF1.out.cb
  clear hb1 HCK
  have HPU := Lib.hid (putfile_any (HCA.out.fs.below HF1.out.bl) (Nat.le_trans HFW.out.fs (by decide)) HRI.out.fs (⟨x.up, x.a⟩ : Fl))
  have hca : (cells x.a).length = 10 := Row.len x.a
  go_wp2_with (refine rw_load (α := At) rfl (.tmp 53) rfl (w.heap.size + 1) 6 rfl x.a (range_at HF1.out.xb) ?_)
  rw [build_fl]
  clear hca
  refine HPU.out.mono ?_
  rintro r w4 ⟨v3, rfl, hr3, hb3⟩
  obtain ⟨A3, k3, hv3, _, _⟩ := hr3.any
  subst hv3
  have HR3 := Lib.hid hr3
  have HF4 := Lib.hid (HF1.out.below hb3)
  clear hr3 hb3 HPU
  clear x0 x1 x2 x3 x4 x5 x7 x8 c0 c1 c2 c3
  go_wp2_with (first
    | (refine rw_cell (α := Cv) rfl 26 (.tmp 57) (.tmp 56) rfl w.heap.size 1 cv { cv with b := ⟨A3, _, k3⟩ } (.slice A3 _ k3) rfl rfl HF4.out.cb (by decide) rfl rfl size26 ?_; intro w5 hb4 hg4 hs4; have HF5 := Lib.hid (HF4.out.cell (cv' := { cv with b := ⟨A3, _, k3⟩ }) hb4 hg4); have HR4 := Lib.hid (HR3.out.grown hg4 HF4.out.cb (by decide)); clear hb4 hg4 hs4)
    | (refine rw_load (α := Cv) rfl (.tmp 2) rfl w.heap.size 0 rfl { cv with b := ⟨A3, _, k3⟩ } (range_row HF5.out.cb) ?_)
    | (refine rw_store (α := Cv) rfl (.tmp 4) (.tmp 101) rfl (w.heap.size + 2) { cv with b := ⟨A3, _, k3⟩ } _ (arr_size _) rfl rfl HF5.out.zb ?_; intro w6 hb6 hg6 hs6; have HC6 := Lib.hid hb6; have HB6 := Lib.hid (HF5.out.ret hg6); have HR5 := Lib.hid (HR4.out.grown hg6 HF5.out.zb (by decide)); clear hb6 hg6 hs6))
  (try simp only [Exit.inBlock, Exit.then])
  refine bodyPost_ret (res_row (α := Cv) Tryz.results33 _ _ (w.heap.size + 2) { cv with b := ⟨A3, _, k3⟩ } (.bool true) rfl rfl HC6.out) rfl ?_
  exact ⟨_, rfl, ⟨HCA.out.hs.below HB6.out, HR5.out.mono (Nat.zero_le _), HCA.out.ns.below HB6.out, HCA.out.bs.below HB6.out⟩, HB6.out⟩
set_option maxHeartbeats 16000000 in
theorem rap_6 {c : Ca} {cv : Cv} {w : World} (h : CaAt w cv c) (hf : Few c 980) (hr : Rises c) (x : Ch) (hck : chkR x = true) (hk : x.k = 6) :
    Calls Tryz.prog 33 #[.agg (arr cv), .agg (arr x)] w (GoV (dooC c x).1 (dooC c x).2 w) := by
  have HF0 := Lib.hid (Fr.start w cv x)
  have hCK := rcheck_any x (W3 w cv x)
  rw [hck] at hCK
  have HCK := Lib.hid hCK
  have HCA := Lib.hid h
  have HFW := Lib.hid hf
  have HRI := Lib.hid hr
  have hk1 : (x.k == 1) = false := by simp [hk]
  have hk3 : (x.k == 3) = false := by simp [hk]
  have hk6 : (x.k == 6) = true := by simp [hk]
  have hm63 : maxLen = 9223372036854775807 := rfl
  have hd : doC c x = ({ c with ns := put kN lN c.ns ⟨x.up, x.name, x.ch⟩ }, (find kF c.fs x.up).isSome) := by
    unfold doC namesC
    rw [if_neg (by omega), if_neg (by omega), if_pos (by omega), if_pos hk]
  rw [dooC_of c x _ _ hd]
  clear h hf hr hck hCK hk hd
  rcases plc_find kF c.fs x.up with ⟨i, hp, hfs⟩ | ⟨hp, hfs, -⟩
  · rw [hfs, if_pos rfl]
    have HP := Lib.hid (fun W (hW : Below w.heap.size w W) => hp ▸ pfile_any (HCA.out.fs.below hW) x.up)
    have hi0 : decide ((i : Int) < 0) = false := decide_eq_false (by omega)
    clear hp hfs
    go_enter Tryz.func33, Tryz.ntmps33
    go_wp2_with (first
      | (refine rw_alloc (α := Cv) rfl rfl ?_)
      | (refine rw_load (α := Ch) rfl (.tmp 3) rfl (w.heap.size + 1) 0 rfl x (range_row HF0.out.xb) ?_))
    refine HCK.out.mono ?_
    rintro r w1 ⟨rfl, hb1⟩
    have HF1 := Lib.hid (HF0.out.below hb1)
    obtain ⟨⟨x0, x1, x2, x3⟩, x4, x5, x7, x8⟩ := ch_cells HF1.out.xb
    obtain ⟨c0, c1, c2, c3⟩ := cv_cells HF1.out.cb
    clear hb1 HCK
    have HP1 := Lib.hid (HP.out w1 HF1.out.bl)
    clear HP
    go_wp2_with (refine rw_load (α := Cv) rfl (.tmp 2) rfl w.heap.size 0 rfl cv (range_row HF1.out.cb) ?_)
    refine HP1.out.mono ?_
    rintro r w2 ⟨rfl, hb2⟩
    have HF2 := Lib.hid (HF1.out.below hb2)
    have HPU := Lib.hid (putname_any (HCA.out.ns.below HF2.out.bl) (Nat.le_trans HFW.out.ns (by decide)) HRI.out.ns (⟨x.up, x.name, x.ch⟩ : Nm))
    clear hb2 HP1
    clear x0 x1 x2 x3 x4 x5 x7 x8 c0 c1 c2 c3
    obtain ⟨⟨x0, x1, x2, x3⟩, x4, x5, x7, x8⟩ := ch_cells HF2.out.xb
    obtain ⟨c0, c1, c2, c3⟩ := cv_cells HF2.out.cb
    go_wp2_with fail
    refine HPU.out.mono ?_
    rintro r w4 ⟨v3, rfl, hr3, hb3⟩
    obtain ⟨A3, k3, hv3, _, _⟩ := hr3.any
    subst hv3
    have HR3 := Lib.hid hr3
    have HF4 := Lib.hid (HF2.out.below hb3)
    clear hr3 hb3 HPU
    clear x0 x1 x2 x3 x4 x5 x7 x8 c0 c1 c2 c3
    go_wp2_with (first
      | (refine rw_cell (α := Cv) rfl 27 (.tmp 76) (.tmp 75) rfl w.heap.size 2 cv { cv with c := ⟨A3, _, k3⟩ } (.slice A3 _ k3) rfl rfl HF4.out.cb (by decide) rfl rfl size27 ?_; intro w5 hb4 hg4 hs4; have HF5 := Lib.hid (HF4.out.cell (cv' := { cv with c := ⟨A3, _, k3⟩ }) hb4 hg4); have HR4 := Lib.hid (HR3.out.grown hg4 HF4.out.cb (by decide)); clear hb4 hg4 hs4)
      | (refine rw_load (α := Cv) rfl (.tmp 2) rfl w.heap.size 0 rfl { cv with c := ⟨A3, _, k3⟩ } (range_row HF5.out.cb) ?_)
      | (refine rw_store (α := Cv) rfl (.tmp 4) (.tmp 101) rfl (w.heap.size + 2) { cv with c := ⟨A3, _, k3⟩ } _ (arr_size _) rfl rfl HF5.out.zb ?_; intro w6 hb6 hg6 hs6; have HC6 := Lib.hid hb6; have HB6 := Lib.hid (HF5.out.ret hg6); have HR5 := Lib.hid (HR4.out.grown hg6 HF5.out.zb (by decide)); clear hb6 hg6 hs6))
    (try simp only [Exit.inBlock, Exit.then])
    refine bodyPost_ret (res_row (α := Cv) Tryz.results33 _ _ (w.heap.size + 2) { cv with c := ⟨A3, _, k3⟩ } (.bool true) rfl rfl HC6.out) rfl ?_
    exact ⟨_, rfl, ⟨HCA.out.hs.below HB6.out, HCA.out.fs.below HB6.out, HR5.out.mono (Nat.zero_le _), HCA.out.bs.below HB6.out⟩, HB6.out⟩
  · rw [hfs, if_neg (by decide)]
    have HP := Lib.hid (fun W (hW : Below w.heap.size w W) => hp ▸ pfile_any (HCA.out.fs.below hW) x.up)
    clear hp hfs
    go_enter Tryz.func33, Tryz.ntmps33
    go_wp2_with (first
      | (refine rw_alloc (α := Cv) rfl rfl ?_)
      | (refine rw_load (α := Ch) rfl (.tmp 3) rfl (w.heap.size + 1) 0 rfl x (range_row HF0.out.xb) ?_))
    refine HCK.out.mono ?_
    rintro r w1 ⟨rfl, hb1⟩
    have HF1 := Lib.hid (HF0.out.below hb1)
    obtain ⟨⟨x0, x1, x2, x3⟩, x4, x5, x7, x8⟩ := ch_cells HF1.out.xb
    obtain ⟨c0, c1, c2, c3⟩ := cv_cells HF1.out.cb
    clear hb1 HCK
    have HP1 := Lib.hid (HP.out w1 HF1.out.bl)
    clear HP
    go_wp2_with (refine rw_load (α := Cv) rfl (.tmp 2) rfl w.heap.size 0 rfl cv (range_row HF1.out.cb) ?_)
    refine HP1.out.mono ?_
    rintro r w2 ⟨rfl, hb2⟩
    have HF2 := Lib.hid (HF1.out.below hb2)
    clear hb2 HP1
    clear x0 x1 x2 x3 x4 x5 x7 x8 c0 c1 c2 c3
    go_wp2_with (first
      | (refine rw_load (α := Cv) rfl (.tmp 2) rfl w.heap.size 0 rfl cv (range_row HF2.out.cb) ?_)
      | (refine rw_store (α := Cv) rfl (.tmp 4) (.tmp 65) rfl (w.heap.size + 2) cv _ (arr_size _) rfl rfl HF2.out.zb ?_; intro w6 hb6 hg6 hs6; have HC6 := Lib.hid hb6; have HB6 := Lib.hid (HF2.out.ret hg6); clear hb6 hg6 hs6))
    (try simp only [Exit.inBlock, Exit.then])
    refine bodyPost_ret (res_row (α := Cv) Tryz.results33 _ _ (w.heap.size + 2) cv (.bool false) rfl rfl HC6.out) rfl ?_
    exact ⟨_, rfl, HCA.out.below HB6.out, HB6.out⟩
set_option maxHeartbeats 16000000 in
theorem rap_8 {c : Ca} {cv : Cv} {w : World} (h : CaAt w cv c) (hf : Few c 980) (hr : Rises c) (x : Ch) (hck : chkR x = true) (hk : x.k = 8) :
    Calls Tryz.prog 33 #[.agg (arr cv), .agg (arr x)] w (GoV (dooC c x).1 (dooC c x).2 w) := by
  have HF0 := Lib.hid (Fr.start w cv x)
  have hCK := rcheck_any x (W3 w cv x)
  rw [hck] at hCK
  have HCK := Lib.hid hCK
  have HCA := Lib.hid h
  have HFW := Lib.hid hf
  have HRI := Lib.hid hr
  have hk1 : (x.k == 1) = false := by simp [hk]
  have hk3 : (x.k == 3) = false := by simp [hk]
  have hk6 : (x.k == 6) = false := by simp [hk]
  have hk8 : (x.k == 8) = true := by simp [hk]
  have hm63 : maxLen = 9223372036854775807 := rfl
  have hd : doC c x = ({ c with bs := put kB lB c.bs ⟨x.up, x.no, x.sl⟩ }, (find kF c.fs x.up).isSome && !c.bs.any (tk x)) := by
    unfold doC blocksC
    rw [if_neg (by omega), if_neg (by omega), if_neg (by omega), if_neg (by omega)]
    rfl
  rw [dooC_of c x _ _ hd]
  clear h hf hr hck hCK hk hd
  rcases plc_find kF c.fs x.up with ⟨i, hp, hfs⟩ | ⟨hp, hfs, -⟩
  · rw [hfs, Bool.true_and]
    have HP := Lib.hid (fun W (hW : Below w.heap.size w W) => hp ▸ pfile_any (HCA.out.fs.below hW) x.up)
    have hi0 : decide ((i : Int) < 0) = false := decide_eq_false (by omega)
    clear hp hfs
    obtain ⟨tb, htb⟩ : ∃ tb, c.bs.any (tk x) = tb := ⟨_, rfl⟩
    have HT := Lib.hid (fun W (hW : Below w.heap.size w W) => htb ▸ taken_any (HCA.out.bs.below hW) x)
    rw [htb]
    clear htb
    cases tb with
    | false =>
      rw [if_pos (by decide)]
      go_enter Tryz.func33, Tryz.ntmps33
      go_wp2_with (first
        | (refine rw_alloc (α := Cv) rfl rfl ?_)
        | (refine rw_load (α := Ch) rfl (.tmp 3) rfl (w.heap.size + 1) 0 rfl x (range_row HF0.out.xb) ?_))
      refine HCK.out.mono ?_
      rintro r w1 ⟨rfl, hb1⟩
      have HF1 := Lib.hid (HF0.out.below hb1)
      obtain ⟨⟨x0, x1, x2, x3⟩, x4, x5, x7, x8⟩ := ch_cells HF1.out.xb
      obtain ⟨c0, c1, c2, c3⟩ := cv_cells HF1.out.cb
      clear hb1 HCK
      have HP1 := Lib.hid (HP.out w1 HF1.out.bl)
      clear HP
      go_wp2_with (refine rw_load (α := Cv) rfl (.tmp 2) rfl w.heap.size 0 rfl cv (range_row HF1.out.cb) ?_)
      refine HP1.out.mono ?_
      rintro r w2 ⟨rfl, hb2⟩
      have HF2 := Lib.hid (HF1.out.below hb2)
      have HT1 := Lib.hid (HT.out w2 HF2.out.bl)
      clear hb2 HP1 HT
      clear x0 x1 x2 x3 x4 x5 x7 x8 c0 c1 c2 c3
      go_wp2_with (first
        | (refine rg_load (α := Cv) rfl (.tmp 2) rfl w.heap.size 0 rfl cv (range_row HF2.out.cb) ?_)
        | (refine rg_load (α := Ch) rfl (.tmp 3) rfl (w.heap.size + 1) 0 rfl x (range_row HF2.out.xb) ?_))
      refine HT1.out.mono ?_
      rintro r w3 ⟨rfl, hb3⟩
      have HF3 := Lib.hid (HF2.out.below hb3)
      clear hb3 HT1
      have HPU := Lib.hid (putblock_any (HCA.out.bs.below HF3.out.bl) (Nat.le_trans HFW.out.bs (by decide)) HRI.out.bs (⟨x.up, x.no, x.sl⟩ : Bl))
      obtain ⟨⟨x0, x1, x2, x3⟩, x4, x5, x7, x8⟩ := ch_cells HF3.out.xb
      obtain ⟨c0, c1, c2, c3⟩ := cv_cells HF3.out.cb
      go_wp2_with fail
      refine HPU.out.mono ?_
      rintro r w4 ⟨v3, rfl, hr3, hb3⟩
      obtain ⟨A3, k3, hv3, _, _⟩ := hr3.any
      subst hv3
      have HR3 := Lib.hid hr3
      have HF4 := Lib.hid (HF3.out.below hb3)
      clear hr3 hb3 HPU
      clear x0 x1 x2 x3 x4 x5 x7 x8 c0 c1 c2 c3
      go_wp2_with (first
        | (refine rw_cell (α := Cv) rfl 28 (.tmp 100) (.tmp 99) rfl w.heap.size 3 cv { cv with d := ⟨A3, _, k3⟩ } (.slice A3 _ k3) rfl rfl HF4.out.cb (by decide) rfl rfl size28 ?_; intro w5 hb4 hg4 hs4; have HF5 := Lib.hid (HF4.out.cell (cv' := { cv with d := ⟨A3, _, k3⟩ }) hb4 hg4); have HR4 := Lib.hid (HR3.out.grown hg4 HF4.out.cb (by decide)); clear hb4 hg4 hs4)
        | (refine rw_load (α := Cv) rfl (.tmp 2) rfl w.heap.size 0 rfl { cv with d := ⟨A3, _, k3⟩ } (range_row HF5.out.cb) ?_)
        | (refine rw_store (α := Cv) rfl (.tmp 4) (.tmp 101) rfl (w.heap.size + 2) { cv with d := ⟨A3, _, k3⟩ } _ (arr_size _) rfl rfl HF5.out.zb ?_; intro w6 hb6 hg6 hs6; have HC6 := Lib.hid hb6; have HB6 := Lib.hid (HF5.out.ret hg6); have HR5 := Lib.hid (HR4.out.grown hg6 HF5.out.zb (by decide)); clear hb6 hg6 hs6))
      (try simp only [Exit.inBlock, Exit.then])
      refine bodyPost_ret (res_row (α := Cv) Tryz.results33 _ _ (w.heap.size + 2) { cv with d := ⟨A3, _, k3⟩ } (.bool true) rfl rfl HC6.out) rfl ?_
      exact ⟨_, rfl, ⟨HCA.out.hs.below HB6.out, HCA.out.fs.below HB6.out, HCA.out.ns.below HB6.out, HR5.out.mono (Nat.zero_le _)⟩, HB6.out⟩
    | true =>
      rw [if_neg (by decide)]
      go_enter Tryz.func33, Tryz.ntmps33
      go_wp2_with (first
        | (refine rw_alloc (α := Cv) rfl rfl ?_)
        | (refine rw_load (α := Ch) rfl (.tmp 3) rfl (w.heap.size + 1) 0 rfl x (range_row HF0.out.xb) ?_))
      refine HCK.out.mono ?_
      rintro r w1 ⟨rfl, hb1⟩
      have HF1 := Lib.hid (HF0.out.below hb1)
      obtain ⟨⟨x0, x1, x2, x3⟩, x4, x5, x7, x8⟩ := ch_cells HF1.out.xb
      obtain ⟨c0, c1, c2, c3⟩ := cv_cells HF1.out.cb
      clear hb1 HCK
      have HP1 := Lib.hid (HP.out w1 HF1.out.bl)
      clear HP
      go_wp2_with (refine rw_load (α := Cv) rfl (.tmp 2) rfl w.heap.size 0 rfl cv (range_row HF1.out.cb) ?_)
      refine HP1.out.mono ?_
      rintro r w2 ⟨rfl, hb2⟩
      have HF2 := Lib.hid (HF1.out.below hb2)
      have HT1 := Lib.hid (HT.out w2 HF2.out.bl)
      clear hb2 HP1 HT
      clear x0 x1 x2 x3 x4 x5 x7 x8 c0 c1 c2 c3
      go_wp2_with (first
        | (refine rg_load (α := Cv) rfl (.tmp 2) rfl w.heap.size 0 rfl cv (range_row HF2.out.cb) ?_)
        | (refine rg_load (α := Ch) rfl (.tmp 3) rfl (w.heap.size + 1) 0 rfl x (range_row HF2.out.xb) ?_))
      refine HT1.out.mono ?_
      rintro r w3 ⟨rfl, hb3⟩
      have HF3 := Lib.hid (HF2.out.below hb3)
      clear hb3 HT1
      go_wp2_with (first
        | (refine rw_load (α := Cv) rfl (.tmp 2) rfl w.heap.size 0 rfl cv (range_row HF3.out.cb) ?_)
        | (refine rw_store (α := Cv) rfl (.tmp 4) (.tmp 89) rfl (w.heap.size + 2) cv _ (arr_size _) rfl rfl HF3.out.zb ?_; intro w6 hb6 hg6 hs6; have HC6 := Lib.hid hb6; have HB6 := Lib.hid (HF3.out.ret hg6); clear hb6 hg6 hs6))
      (try simp only [Exit.inBlock, Exit.then])
      refine bodyPost_ret (res_row (α := Cv) Tryz.results33 _ _ (w.heap.size + 2) cv (.bool false) rfl rfl HC6.out) rfl ?_
      exact ⟨_, rfl, HCA.out.below HB6.out, HB6.out⟩
  · rw [hfs, if_neg (by simp)]
    have HP := Lib.hid (fun W (hW : Below w.heap.size w W) => hp ▸ pfile_any (HCA.out.fs.below hW) x.up)
    clear hp hfs
    go_enter Tryz.func33, Tryz.ntmps33
    go_wp2_with (first
      | (refine rw_alloc (α := Cv) rfl rfl ?_)
      | (refine rw_load (α := Ch) rfl (.tmp 3) rfl (w.heap.size + 1) 0 rfl x (range_row HF0.out.xb) ?_))
    refine HCK.out.mono ?_
    rintro r w1 ⟨rfl, hb1⟩
    have HF1 := Lib.hid (HF0.out.below hb1)
    obtain ⟨⟨x0, x1, x2, x3⟩, x4, x5, x7, x8⟩ := ch_cells HF1.out.xb
    obtain ⟨c0, c1, c2, c3⟩ := cv_cells HF1.out.cb
    clear hb1 HCK
    have HP1 := Lib.hid (HP.out w1 HF1.out.bl)
    clear HP
    go_wp2_with (refine rw_load (α := Cv) rfl (.tmp 2) rfl w.heap.size 0 rfl cv (range_row HF1.out.cb) ?_)
    refine HP1.out.mono ?_
    rintro r w2 ⟨rfl, hb2⟩
    have HF2 := Lib.hid (HF1.out.below hb2)
    clear hb2 HP1
    clear x0 x1 x2 x3 x4 x5 x7 x8 c0 c1 c2 c3
    go_wp2_with (first
      | (refine rw_load (α := Cv) rfl (.tmp 2) rfl w.heap.size 0 rfl cv (range_row HF2.out.cb) ?_)
      | (refine rw_store (α := Cv) rfl (.tmp 4) (.tmp 89) rfl (w.heap.size + 2) cv _ (arr_size _) rfl rfl HF2.out.zb ?_; intro w6 hb6 hg6 hs6; have HC6 := Lib.hid hb6; have HB6 := Lib.hid (HF2.out.ret hg6); clear hb6 hg6 hs6))
    (try simp only [Exit.inBlock, Exit.then])
    refine bodyPost_ret (res_row (α := Cv) Tryz.results33 _ _ (w.heap.size + 2) cv (.bool false) rfl rfl HC6.out) rfl ?_
    exact ⟨_, rfl, HCA.out.below HB6.out, HB6.out⟩
set_option maxHeartbeats 16000000 in
theorem rap_g {c : Ca} {cv : Cv} {w : World} (h : CaAt w cv c) (hf : Few c 980) (hr : Rises c) (x : Ch) (hck : chkR x = true) (hk : x.k = 2 ∨ x.k = 4 ∨ x.k = 5 ∨ x.k = 7 ∨ x.k = 9) :
    Calls Tryz.prog 33 #[.agg (arr cv), .agg (arr x)] w (GoV (dooC c x).1 (dooC c x).2 w) := by
  have HF0 := Lib.hid (Fr.start w cv x)
  have hCK := rcheck_any x (W3 w cv x)
  rw [hck] at hCK
  have HCK := Lib.hid hCK
  have HCA := Lib.hid h
  have HFW := Lib.hid hf
  have HRI := Lib.hid hr
  have hk1 : (x.k == 1) = false := by simp; omega
  have hk3 : (x.k == 3) = false := by simp; omega
  have hk6 : (x.k == 6) = false := by simp; omega
  have hk8 : (x.k == 8) = false := by simp; omega
  have hm63 : maxLen = 9223372036854775807 := rfl
  have HG := Lib.hid (fun W (hW : Below w.heap.size w W) => goes_any (h.below hW) (hf.up (by decide)) hr x hk)
  clear h hf hr hck hCK hk
  generalize dooC c x = D at HG ⊢
  obtain ⟨d1, d2⟩ := D
  go_enter Tryz.func33, Tryz.ntmps33
  go_wp2_with (first
    | (refine rw_alloc (α := Cv) rfl rfl ?_)
    | (refine rw_load (α := Ch) rfl (.tmp 3) rfl (w.heap.size + 1) 0 rfl x (range_row HF0.out.xb) ?_))
  refine HCK.out.mono ?_
  rintro r w1 ⟨rfl, hb1⟩
  have HF1 := Lib.hid (HF0.out.below hb1)
  obtain ⟨⟨x0, x1, x2, x3⟩, x4, x5, x7, x8⟩ := ch_cells HF1.out.xb
  obtain ⟨c0, c1, c2, c3⟩ := cv_cells HF1.out.cb
  clear hb1 HCK
  have HG1 := Lib.hid (HG.out w1 HF1.out.bl)
  clear HG
  go_wp2_with (first
    | (refine rw_load (α := Cv) rfl (.tmp 2) rfl w.heap.size 0 rfl cv (range_row HF1.out.cb) ?_)
    | (refine rw_load (α := Ch) rfl (.tmp 3) rfl (w.heap.size + 1) 0 rfl x (range_row HF1.out.xb) ?_))
  refine HG1.out.mono ?_
  rintro r w2 ⟨cv1, rfl, hca1, hb2⟩
  have HF2 := Lib.hid (HF1.out.below hb2)
  have HCA1 := Lib.hid hca1
  clear hb2 hca1 HG1
  clear x0 x1 x2 x3 x4 x5 x7 x8 c0 c1 c2 c3
  go_wp2_with (refine rw_store (α := Cv) rfl (.tmp 4) (.tmp 15) rfl (w.heap.size + 2) cv1 _ (arr_size _) rfl rfl HF2.out.zb ?_; intro w6 hb6 hg6 hs6; have HC6 := Lib.hid hb6; have HB6 := Lib.hid (HF2.out.ret hg6); have HCA6 := Lib.hid (HCA1.out.grown hg6 HF2.out.zb); clear hb6 hg6 hs6)
  (try simp only [Exit.inBlock, Exit.then])
  refine bodyPost_ret (res_row (α := Cv) Tryz.results33 _ _ (w.heap.size + 2) cv1 (.bool d2) rfl rfl HC6.out) rfl ?_
  exact ⟨_, rfl, HCA6.out, HB6.out⟩
def apR (c : Ca) (x : Ch) : Ca × Bool := if chkR x = true then dooC c x else (c, false)
theorem chkR_kind {x : Ch} (h : chkR x = true) : 1 ≤ x.k ∧ x.k ≤ 9 := by
  have hh : hasS x.k ≠ ⟨#[]⟩ := fun e => by
    unfold chkR at h
    rw [decide_eq_true e] at h
    cases h
  unfold hasS at hh
  have : ¬ (¬ x.k = 1 ∧ ¬ x.k = 2 ∧ ¬ x.k = 3 ∧ ¬ (x.k = 4 ∨ x.k = 5) ∧ ¬ x.k = 6 ∧ ¬ x.k = 7 ∧ ¬ x.k = 8 ∧ ¬ x.k = 9) := fun ⟨h1, h2, h3, h4, h6, h7, h8, h9⟩ => by
    rw [if_neg h1, if_neg h2, if_neg h3, if_neg h4, if_neg h6, if_neg h7, if_neg h8, if_neg h9] at hh
    exact hh rfl
  omega
theorem rapply_any {c : Ca} {cv : Cv} {w : World} (h : CaAt w cv c) (hf : Few c 980) (hr : Rises c) (x : Ch) : Calls Tryz.prog 33 #[.agg (arr cv), .agg (arr x)] w (GoV (apR c x).1 (apR c x).2 w) := by
  unfold apR
  cases hc : chkR x with
  | false => rw [if_neg (by decide)]; exact rap_no h x hc
  | true =>
    rw [if_pos rfl]
    have hk := chkR_kind hc
    by_cases h1 : x.k = 1
    · exact rap_1 h hf hr x hc h1
    · by_cases h3 : x.k = 3
      · exact rap_3 h hf hr x hc h3
      · by_cases h6 : x.k = 6
        · exact rap_6 h hf hr x hc h6
        · by_cases h8 : x.k = 8
          · exact rap_8 h hf hr x hc h8
          · exact rap_g h hf hr x hc (by omega)
end Go.Proofs.YtokhnbdhcehonaaGreat
