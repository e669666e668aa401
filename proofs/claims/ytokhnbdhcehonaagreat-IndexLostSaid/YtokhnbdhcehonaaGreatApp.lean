/- index: Apply. -/
import Derived.Test.YtokhnbdhcehonaaGreatChk
import Derived.Test.YtokhnbdhcehonaaGreatBlocks
import Derived.Test.YtokhnbdhcehonaaGreatNames
set_option linter.unusedSimpArgs false
set_option linter.unusedVariables false
namespace Go.Proofs.YtokhnbdhcehonaaGreat
open Go Go.RowKit Row
set_option maxRecDepth 100000
def doC (c : Ca) (x : Ch) : Ca × Bool :=
  if x.k = 1 ∨ x.k = 2 then handlesC c x else if x.k = 3 ∨ x.k = 4 ∨ x.k = 5 then filesC c x else if x.k = 6 ∨ x.k = 7 then namesC c x else blocksC c x
def doF (k : Int) : Nat := if k = 1 ∨ k = 2 then 77 else if k = 3 ∨ k = 4 ∨ k = 5 then 78 else if k = 6 ∨ k = 7 then 79 else 76
def apC (c : Ca) (x : Ch) : Ca × Bool := if chkP x = true then (if (doC c x).2 = true then ((doC c x).1, true) else (c, false)) else (c, false)
theorem do_any {c : Ca} {cv : Cv} {w : World} (h : CaAt w cv c) (hf : Few c 999) (hr : Rises c) (x : Ch) :
    Calls Tryz.prog (doF x.k) #[.agg (arr cv), .agg (arr x)] w fun r w' => ∃ cv', r = .returned (.tuple #[.agg (arr cv'), .bool (doC c x).2]) ∧ CaAt w' cv' (doC c x).1 ∧ Below w.heap.size w w' := by
  unfold doF doC
  split
  · exact handles_any h hf hr.hs x
  · split
    · exact files_any h hf hr.fs x
    · split
      · exact names_any h hf hr.fs hr.ns x
      · exact blocks_any h hf hr.fs hr.bs x
set_option maxHeartbeats 16000000 in
theorem apply_any {c : Ca} {cv : Cv} {w : World} (h : CaAt w cv c) (hf : Few c 999) (hr : Rises c) (x : Ch) :
    Calls Tryz.prog 32 #[.agg (arr cv), .agg (arr x)] w fun r w' => ∃ cv', r = .returned (.tuple #[.agg (arr cv'), .bool (apC c x).2]) ∧ CaAt w' cv' (apC c x).1 ∧ Below w.heap.size w w' := by
  have hF0 := Fr.start w cv x
  have HCA := Lib.hid h
  have HDO := Lib.hid (fun (W : World) (hW : Below w.heap.size w W) => do_any (h.below hW) hf hr x)
  have HCK := Lib.hid (check_any x (W3 w cv x))
  have HF0 := Lib.hid hF0
  clear h hf hr hF0
  obtain ⟨q, hq⟩ : ∃ q, q = chkP x := ⟨_, rfl⟩
  obtain ⟨P, hP⟩ : ∃ P, P = apC c x := ⟨_, rfl⟩
  rw [← hP]
  rw [← hq] at HCK
  cases q with
  | false =>
    obtain rfl : P = (c, false) := by rw [hP]; exact if_neg (by rw [← hq]; decide)
    clear hP hq HDO
    go_enter Tryz.func32, Tryz.ntmps32
    go_wp2_with (first
      | (refine rw_alloc (α := Cv) rfl rfl ?_)
      | (refine rw_load (α := Ch) rfl (.tmp 3) rfl (w.heap.size + 1) 0 rfl x (range_row HF0.out.xb) ?_))
    refine HCK.out.mono ?_
    rintro r w2 ⟨rfl, hb2⟩
    have HF2 := Lib.hid (HF0.out.below hb2)
    clear hb2 HCK
    go_wp2_with (first
        | (refine rw_load (α := Cv) rfl (.tmp 2) rfl w.heap.size 0 rfl cv (range_row HF2.out.cb) ?_)
        | (refine rw_store (α := Cv) rfl (.tmp 4) (.tmp 12) rfl (w.heap.size + 2) cv _ (arr_size _) rfl rfl HF2.out.zb ?_; intro w5 hb5 hg5 hs5; have HC5 := Lib.hid hb5; have HB5 := Lib.hid (HF2.out.ret hg5); clear hb5 hg5 hs5))
    (try simp only [Exit.inBlock, Exit.then])
    refine bodyPost_ret (res_row (α := Cv) Tryz.results32 _ _ (w.heap.size + 2) cv (.bool false) rfl rfl HC5.out) rfl ?_
    exact ⟨_, rfl, HCA.out.below HB5.out, HB5.out⟩
  | true =>
    have HP : Hid (P = if (doC c x).2 = true then ((doC c x).1, true) else (c, false)) := Lib.hid (by rw [hP]; exact if_pos (by rw [← hq]))
    clear hP hq
    generalize doC c x = D at HP HDO
    obtain ⟨f, hfk⟩ : ∃ f, f = doF x.k := ⟨_, rfl⟩
    rw [← hfk] at HDO
    unfold doF at hfk
    have hk : (f = 77 ∧ (x.k = 1 ∨ x.k = 2)) ∨ (f = 78 ∧ (x.k = 3 ∨ x.k = 4 ∨ x.k = 5)) ∨ (f = 79 ∧ (x.k = 6 ∨ x.k = 7)) ∨ (f = 76 ∧ x.k ≠ 1 ∧ x.k ≠ 2 ∧ x.k ≠ 3 ∧ x.k ≠ 4 ∧ x.k ≠ 5 ∧ x.k ≠ 6 ∧ x.k ≠ 7) := by
      split at hfk
      · exact .inl ⟨hfk, by assumption⟩
      · split at hfk
        · exact .inr (.inl ⟨hfk, by assumption⟩)
        · split at hfk
          · exact .inr (.inr (.inl ⟨hfk, by assumption⟩))
          · exact .inr (.inr (.inr ⟨hfk, by omega⟩))
    clear hfk
    rcases hk with ⟨rfl, hk | hk⟩ | ⟨rfl, hk | hk | hk⟩ | ⟨rfl, hk | hk⟩ | ⟨rfl, n1, n2, n3, n4, n5, n6, n7⟩
    · have e1 : (x.k == 1) = true := by simp [hk]
      clear hk
      go_enter Tryz.func32, Tryz.ntmps32
      go_wp2_with (first
        | (refine rw_alloc (α := Cv) rfl rfl ?_)
        | (refine rw_load (α := Ch) rfl (.tmp 3) rfl (w.heap.size + 1) 0 rfl x (range_row HF0.out.xb) ?_))
      refine HCK.out.mono ?_
      rintro r w2 ⟨rfl, hb2⟩
      have HF2 := Lib.hid (HF0.out.below hb2)
      obtain ⟨⟨x0, -, -, -⟩, -⟩ := ch_cells HF2.out.xb
      have HD := Lib.hid (HDO.out w2 HF2.out.bl)
      clear hb2 HCK HDO
      go_wp2_with (first
        | (refine rw_load (α := Cv) rfl (.tmp 2) rfl w.heap.size 0 rfl cv (range_row HF2.out.cb) ?_)
        | (refine rw_load (α := Ch) rfl (.tmp 3) rfl (w.heap.size + 1) 0 rfl x (range_row HF2.out.xb) ?_))
      refine HD.out.mono ?_
      rintro r w3 ⟨cv', rfl, hca', hb3⟩
      have HC3 := Lib.hid (hca'.below (bel_box (o := .cells (arr cv') 30)))
      have HF3 := Lib.hid ((HF2.out.below hb3).below (bel_box (o := .cells (arr cv') 30)))
      have HN3 := Lib.hid (heap_alloc_new w3 (.cells (arr cv') 30))
      clear hb3 hca' HD x0 
      obtain ⟨d1, d2⟩ := D
      cases d2 with
      | true =>
        obtain rfl := HP.out.trans (if_pos rfl)
        go_wp2_with (first
          | (refine rw_put (α := Cv) _ 7 (.tmp 30) rfl rfl rfl rfl rfl rfl cv' rfl rfl ?_)
          | (refine rw_load (α := Cv) rfl (.tmp 7) rfl w3.heap.size 0 rfl cv' (range_row HN3.out) ?_)
          | (refine rw_store (α := Cv) rfl (.tmp 4) (.tmp 35) rfl (w.heap.size + 2) cv' _ (arr_size _) rfl rfl HF3.out.zb ?_; intro w5 hb5 hg5 hs5; have HC5 := Lib.hid hb5; have HB5 := Lib.hid (HF3.out.ret hg5); have HE5 := Lib.hid (And.intro (And.intro (HC3.out.hs.grown hg5 HF3.out.zb (by decide)) (HC3.out.fs.grown hg5 HF3.out.zb (by decide))) (And.intro (HC3.out.ns.grown hg5 HF3.out.zb (by decide)) (HC3.out.bs.grown hg5 HF3.out.zb (by decide)))); clear hb5 hg5 hs5))
        (try simp only [Exit.inBlock, Exit.then])
        refine bodyPost_ret (res_row (α := Cv) Tryz.results32 _ _ (w.heap.size + 2) cv' (.bool true) rfl rfl HC5.out) rfl ?_
        exact ⟨_, rfl, ⟨HE5.out.1.1, HE5.out.1.2, HE5.out.2.1, HE5.out.2.2⟩, HB5.out⟩
      | false =>
        obtain rfl := HP.out.trans (if_neg (by simp))
        go_wp2_with (first
          | (refine rw_put (α := Cv) _ 7 (.tmp 30) rfl rfl rfl rfl rfl rfl cv' rfl rfl ?_)
          | (refine rw_load (α := Cv) rfl (.tmp 2) rfl w.heap.size 0 rfl cv (range_row HF3.out.cb) ?_)
          | (refine rw_store (α := Cv) rfl (.tmp 4) (.tmp 34) rfl (w.heap.size + 2) cv _ (arr_size _) rfl rfl HF3.out.zb ?_; intro w5 hb5 hg5 hs5; have HC5 := Lib.hid hb5; have HB5 := Lib.hid (HF3.out.ret hg5); clear hb5 hg5 hs5))
        (try simp only [Exit.inBlock, Exit.then])
        refine bodyPost_ret (res_row (α := Cv) Tryz.results32 _ _ (w.heap.size + 2) cv (.bool false) rfl rfl HC5.out) rfl ?_
        exact ⟨_, rfl, HCA.out.below HB5.out, HB5.out⟩
    · have e1 : (x.k == 1) = false := by simp [hk]
      have e2 : (x.k == 2) = true := by simp [hk]
      clear hk
      go_enter Tryz.func32, Tryz.ntmps32
      go_wp2_with (first
        | (refine rw_alloc (α := Cv) rfl rfl ?_)
        | (refine rw_load (α := Ch) rfl (.tmp 3) rfl (w.heap.size + 1) 0 rfl x (range_row HF0.out.xb) ?_))
      refine HCK.out.mono ?_
      rintro r w2 ⟨rfl, hb2⟩
      have HF2 := Lib.hid (HF0.out.below hb2)
      obtain ⟨⟨x0, -, -, -⟩, -⟩ := ch_cells HF2.out.xb
      have HD := Lib.hid (HDO.out w2 HF2.out.bl)
      clear hb2 HCK HDO
      go_wp2_with (first
        | (refine rw_load (α := Cv) rfl (.tmp 2) rfl w.heap.size 0 rfl cv (range_row HF2.out.cb) ?_)
        | (refine rw_load (α := Ch) rfl (.tmp 3) rfl (w.heap.size + 1) 0 rfl x (range_row HF2.out.xb) ?_))
      refine HD.out.mono ?_
      rintro r w3 ⟨cv', rfl, hca', hb3⟩
      have HC3 := Lib.hid (hca'.below (bel_box (o := .cells (arr cv') 30)))
      have HF3 := Lib.hid ((HF2.out.below hb3).below (bel_box (o := .cells (arr cv') 30)))
      have HN3 := Lib.hid (heap_alloc_new w3 (.cells (arr cv') 30))
      clear hb3 hca' HD x0 
      obtain ⟨d1, d2⟩ := D
      cases d2 with
      | true =>
        obtain rfl := HP.out.trans (if_pos rfl)
        go_wp2_with (first
          | (refine rw_put (α := Cv) _ 7 (.tmp 30) rfl rfl rfl rfl rfl rfl cv' rfl rfl ?_)
          | (refine rw_load (α := Cv) rfl (.tmp 7) rfl w3.heap.size 0 rfl cv' (range_row HN3.out) ?_)
          | (refine rw_store (α := Cv) rfl (.tmp 4) (.tmp 35) rfl (w.heap.size + 2) cv' _ (arr_size _) rfl rfl HF3.out.zb ?_; intro w5 hb5 hg5 hs5; have HC5 := Lib.hid hb5; have HB5 := Lib.hid (HF3.out.ret hg5); have HE5 := Lib.hid (And.intro (And.intro (HC3.out.hs.grown hg5 HF3.out.zb (by decide)) (HC3.out.fs.grown hg5 HF3.out.zb (by decide))) (And.intro (HC3.out.ns.grown hg5 HF3.out.zb (by decide)) (HC3.out.bs.grown hg5 HF3.out.zb (by decide)))); clear hb5 hg5 hs5))
        (try simp only [Exit.inBlock, Exit.then])
        refine bodyPost_ret (res_row (α := Cv) Tryz.results32 _ _ (w.heap.size + 2) cv' (.bool true) rfl rfl HC5.out) rfl ?_
        exact ⟨_, rfl, ⟨HE5.out.1.1, HE5.out.1.2, HE5.out.2.1, HE5.out.2.2⟩, HB5.out⟩
      | false =>
        obtain rfl := HP.out.trans (if_neg (by simp))
        go_wp2_with (first
          | (refine rw_put (α := Cv) _ 7 (.tmp 30) rfl rfl rfl rfl rfl rfl cv' rfl rfl ?_)
          | (refine rw_load (α := Cv) rfl (.tmp 2) rfl w.heap.size 0 rfl cv (range_row HF3.out.cb) ?_)
          | (refine rw_store (α := Cv) rfl (.tmp 4) (.tmp 34) rfl (w.heap.size + 2) cv _ (arr_size _) rfl rfl HF3.out.zb ?_; intro w5 hb5 hg5 hs5; have HC5 := Lib.hid hb5; have HB5 := Lib.hid (HF3.out.ret hg5); clear hb5 hg5 hs5))
        (try simp only [Exit.inBlock, Exit.then])
        refine bodyPost_ret (res_row (α := Cv) Tryz.results32 _ _ (w.heap.size + 2) cv (.bool false) rfl rfl HC5.out) rfl ?_
        exact ⟨_, rfl, HCA.out.below HB5.out, HB5.out⟩
    · have e1 : (x.k == 1) = false := by simp [hk]
      have e2 : (x.k == 2) = false := by simp [hk]
      have e3 : (x.k == 3) = true := by simp [hk]
      clear hk
      go_enter Tryz.func32, Tryz.ntmps32
      go_wp2_with (first
        | (refine rw_alloc (α := Cv) rfl rfl ?_)
        | (refine rw_load (α := Ch) rfl (.tmp 3) rfl (w.heap.size + 1) 0 rfl x (range_row HF0.out.xb) ?_))
      refine HCK.out.mono ?_
      rintro r w2 ⟨rfl, hb2⟩
      have HF2 := Lib.hid (HF0.out.below hb2)
      obtain ⟨⟨x0, -, -, -⟩, -⟩ := ch_cells HF2.out.xb
      have HD := Lib.hid (HDO.out w2 HF2.out.bl)
      clear hb2 HCK HDO
      go_wp2_with (first
        | (refine rw_load (α := Cv) rfl (.tmp 2) rfl w.heap.size 0 rfl cv (range_row HF2.out.cb) ?_)
        | (refine rw_load (α := Ch) rfl (.tmp 3) rfl (w.heap.size + 1) 0 rfl x (range_row HF2.out.xb) ?_))
      refine HD.out.mono ?_
      rintro r w3 ⟨cv', rfl, hca', hb3⟩
      have HC3 := Lib.hid (hca'.below (bel_box (o := .cells (arr cv') 30)))
      have HF3 := Lib.hid ((HF2.out.below hb3).below (bel_box (o := .cells (arr cv') 30)))
      have HN3 := Lib.hid (heap_alloc_new w3 (.cells (arr cv') 30))
      clear hb3 hca' HD x0 
      obtain ⟨d1, d2⟩ := D
      cases d2 with
      | true =>
        obtain rfl := HP.out.trans (if_pos rfl)
        go_wp2_with (first
          | (refine rw_put (α := Cv) _ 7 (.tmp 30) rfl rfl rfl rfl rfl rfl cv' rfl rfl ?_)
          | (refine rw_load (α := Cv) rfl (.tmp 7) rfl w3.heap.size 0 rfl cv' (range_row HN3.out) ?_)
          | (refine rw_store (α := Cv) rfl (.tmp 4) (.tmp 35) rfl (w.heap.size + 2) cv' _ (arr_size _) rfl rfl HF3.out.zb ?_; intro w5 hb5 hg5 hs5; have HC5 := Lib.hid hb5; have HB5 := Lib.hid (HF3.out.ret hg5); have HE5 := Lib.hid (And.intro (And.intro (HC3.out.hs.grown hg5 HF3.out.zb (by decide)) (HC3.out.fs.grown hg5 HF3.out.zb (by decide))) (And.intro (HC3.out.ns.grown hg5 HF3.out.zb (by decide)) (HC3.out.bs.grown hg5 HF3.out.zb (by decide)))); clear hb5 hg5 hs5))
        (try simp only [Exit.inBlock, Exit.then])
        refine bodyPost_ret (res_row (α := Cv) Tryz.results32 _ _ (w.heap.size + 2) cv' (.bool true) rfl rfl HC5.out) rfl ?_
        exact ⟨_, rfl, ⟨HE5.out.1.1, HE5.out.1.2, HE5.out.2.1, HE5.out.2.2⟩, HB5.out⟩
      | false =>
        obtain rfl := HP.out.trans (if_neg (by simp))
        go_wp2_with (first
          | (refine rw_put (α := Cv) _ 7 (.tmp 30) rfl rfl rfl rfl rfl rfl cv' rfl rfl ?_)
          | (refine rw_load (α := Cv) rfl (.tmp 2) rfl w.heap.size 0 rfl cv (range_row HF3.out.cb) ?_)
          | (refine rw_store (α := Cv) rfl (.tmp 4) (.tmp 34) rfl (w.heap.size + 2) cv _ (arr_size _) rfl rfl HF3.out.zb ?_; intro w5 hb5 hg5 hs5; have HC5 := Lib.hid hb5; have HB5 := Lib.hid (HF3.out.ret hg5); clear hb5 hg5 hs5))
        (try simp only [Exit.inBlock, Exit.then])
        refine bodyPost_ret (res_row (α := Cv) Tryz.results32 _ _ (w.heap.size + 2) cv (.bool false) rfl rfl HC5.out) rfl ?_
        exact ⟨_, rfl, HCA.out.below HB5.out, HB5.out⟩
    · have e1 : (x.k == 1) = false := by simp [hk]
      have e2 : (x.k == 2) = false := by simp [hk]
      have e3 : (x.k == 3) = false := by simp [hk]
      have e4 : (x.k == 4) = true := by simp [hk]
      clear hk
      go_enter Tryz.func32, Tryz.ntmps32
      go_wp2_with (first
        | (refine rw_alloc (α := Cv) rfl rfl ?_)
        | (refine rw_load (α := Ch) rfl (.tmp 3) rfl (w.heap.size + 1) 0 rfl x (range_row HF0.out.xb) ?_))
      refine HCK.out.mono ?_
      rintro r w2 ⟨rfl, hb2⟩
      have HF2 := Lib.hid (HF0.out.below hb2)
      obtain ⟨⟨x0, -, -, -⟩, -⟩ := ch_cells HF2.out.xb
      have HD := Lib.hid (HDO.out w2 HF2.out.bl)
      clear hb2 HCK HDO
      go_wp2_with (first
        | (refine rw_load (α := Cv) rfl (.tmp 2) rfl w.heap.size 0 rfl cv (range_row HF2.out.cb) ?_)
        | (refine rw_load (α := Ch) rfl (.tmp 3) rfl (w.heap.size + 1) 0 rfl x (range_row HF2.out.xb) ?_))
      refine HD.out.mono ?_
      rintro r w3 ⟨cv', rfl, hca', hb3⟩
      have HC3 := Lib.hid (hca'.below (bel_box (o := .cells (arr cv') 30)))
      have HF3 := Lib.hid ((HF2.out.below hb3).below (bel_box (o := .cells (arr cv') 30)))
      have HN3 := Lib.hid (heap_alloc_new w3 (.cells (arr cv') 30))
      clear hb3 hca' HD x0 
      obtain ⟨d1, d2⟩ := D
      cases d2 with
      | true =>
        obtain rfl := HP.out.trans (if_pos rfl)
        go_wp2_with (first
          | (refine rw_put (α := Cv) _ 7 (.tmp 30) rfl rfl rfl rfl rfl rfl cv' rfl rfl ?_)
          | (refine rw_load (α := Cv) rfl (.tmp 7) rfl w3.heap.size 0 rfl cv' (range_row HN3.out) ?_)
          | (refine rw_store (α := Cv) rfl (.tmp 4) (.tmp 35) rfl (w.heap.size + 2) cv' _ (arr_size _) rfl rfl HF3.out.zb ?_; intro w5 hb5 hg5 hs5; have HC5 := Lib.hid hb5; have HB5 := Lib.hid (HF3.out.ret hg5); have HE5 := Lib.hid (And.intro (And.intro (HC3.out.hs.grown hg5 HF3.out.zb (by decide)) (HC3.out.fs.grown hg5 HF3.out.zb (by decide))) (And.intro (HC3.out.ns.grown hg5 HF3.out.zb (by decide)) (HC3.out.bs.grown hg5 HF3.out.zb (by decide)))); clear hb5 hg5 hs5))
        (try simp only [Exit.inBlock, Exit.then])
        refine bodyPost_ret (res_row (α := Cv) Tryz.results32 _ _ (w.heap.size + 2) cv' (.bool true) rfl rfl HC5.out) rfl ?_
        exact ⟨_, rfl, ⟨HE5.out.1.1, HE5.out.1.2, HE5.out.2.1, HE5.out.2.2⟩, HB5.out⟩
      | false =>
        obtain rfl := HP.out.trans (if_neg (by simp))
        go_wp2_with (first
          | (refine rw_put (α := Cv) _ 7 (.tmp 30) rfl rfl rfl rfl rfl rfl cv' rfl rfl ?_)
          | (refine rw_load (α := Cv) rfl (.tmp 2) rfl w.heap.size 0 rfl cv (range_row HF3.out.cb) ?_)
          | (refine rw_store (α := Cv) rfl (.tmp 4) (.tmp 34) rfl (w.heap.size + 2) cv _ (arr_size _) rfl rfl HF3.out.zb ?_; intro w5 hb5 hg5 hs5; have HC5 := Lib.hid hb5; have HB5 := Lib.hid (HF3.out.ret hg5); clear hb5 hg5 hs5))
        (try simp only [Exit.inBlock, Exit.then])
        refine bodyPost_ret (res_row (α := Cv) Tryz.results32 _ _ (w.heap.size + 2) cv (.bool false) rfl rfl HC5.out) rfl ?_
        exact ⟨_, rfl, HCA.out.below HB5.out, HB5.out⟩
    · have e1 : (x.k == 1) = false := by simp [hk]
      have e2 : (x.k == 2) = false := by simp [hk]
      have e3 : (x.k == 3) = false := by simp [hk]
      have e4 : (x.k == 4) = false := by simp [hk]
      have e5 : (x.k == 5) = true := by simp [hk]
      clear hk
      go_enter Tryz.func32, Tryz.ntmps32
      go_wp2_with (first
        | (refine rw_alloc (α := Cv) rfl rfl ?_)
        | (refine rw_load (α := Ch) rfl (.tmp 3) rfl (w.heap.size + 1) 0 rfl x (range_row HF0.out.xb) ?_))
      refine HCK.out.mono ?_
      rintro r w2 ⟨rfl, hb2⟩
      have HF2 := Lib.hid (HF0.out.below hb2)
      obtain ⟨⟨x0, -, -, -⟩, -⟩ := ch_cells HF2.out.xb
      have HD := Lib.hid (HDO.out w2 HF2.out.bl)
      clear hb2 HCK HDO
      go_wp2_with (first
        | (refine rw_load (α := Cv) rfl (.tmp 2) rfl w.heap.size 0 rfl cv (range_row HF2.out.cb) ?_)
        | (refine rw_load (α := Ch) rfl (.tmp 3) rfl (w.heap.size + 1) 0 rfl x (range_row HF2.out.xb) ?_))
      refine HD.out.mono ?_
      rintro r w3 ⟨cv', rfl, hca', hb3⟩
      have HC3 := Lib.hid (hca'.below (bel_box (o := .cells (arr cv') 30)))
      have HF3 := Lib.hid ((HF2.out.below hb3).below (bel_box (o := .cells (arr cv') 30)))
      have HN3 := Lib.hid (heap_alloc_new w3 (.cells (arr cv') 30))
      clear hb3 hca' HD x0 
      obtain ⟨d1, d2⟩ := D
      cases d2 with
      | true =>
        obtain rfl := HP.out.trans (if_pos rfl)
        go_wp2_with (first
          | (refine rw_put (α := Cv) _ 7 (.tmp 30) rfl rfl rfl rfl rfl rfl cv' rfl rfl ?_)
          | (refine rw_load (α := Cv) rfl (.tmp 7) rfl w3.heap.size 0 rfl cv' (range_row HN3.out) ?_)
          | (refine rw_store (α := Cv) rfl (.tmp 4) (.tmp 35) rfl (w.heap.size + 2) cv' _ (arr_size _) rfl rfl HF3.out.zb ?_; intro w5 hb5 hg5 hs5; have HC5 := Lib.hid hb5; have HB5 := Lib.hid (HF3.out.ret hg5); have HE5 := Lib.hid (And.intro (And.intro (HC3.out.hs.grown hg5 HF3.out.zb (by decide)) (HC3.out.fs.grown hg5 HF3.out.zb (by decide))) (And.intro (HC3.out.ns.grown hg5 HF3.out.zb (by decide)) (HC3.out.bs.grown hg5 HF3.out.zb (by decide)))); clear hb5 hg5 hs5))
        (try simp only [Exit.inBlock, Exit.then])
        refine bodyPost_ret (res_row (α := Cv) Tryz.results32 _ _ (w.heap.size + 2) cv' (.bool true) rfl rfl HC5.out) rfl ?_
        exact ⟨_, rfl, ⟨HE5.out.1.1, HE5.out.1.2, HE5.out.2.1, HE5.out.2.2⟩, HB5.out⟩
      | false =>
        obtain rfl := HP.out.trans (if_neg (by simp))
        go_wp2_with (first
          | (refine rw_put (α := Cv) _ 7 (.tmp 30) rfl rfl rfl rfl rfl rfl cv' rfl rfl ?_)
          | (refine rw_load (α := Cv) rfl (.tmp 2) rfl w.heap.size 0 rfl cv (range_row HF3.out.cb) ?_)
          | (refine rw_store (α := Cv) rfl (.tmp 4) (.tmp 34) rfl (w.heap.size + 2) cv _ (arr_size _) rfl rfl HF3.out.zb ?_; intro w5 hb5 hg5 hs5; have HC5 := Lib.hid hb5; have HB5 := Lib.hid (HF3.out.ret hg5); clear hb5 hg5 hs5))
        (try simp only [Exit.inBlock, Exit.then])
        refine bodyPost_ret (res_row (α := Cv) Tryz.results32 _ _ (w.heap.size + 2) cv (.bool false) rfl rfl HC5.out) rfl ?_
        exact ⟨_, rfl, HCA.out.below HB5.out, HB5.out⟩
    · have e1 : (x.k == 1) = false := by simp [hk]
      have e2 : (x.k == 2) = false := by simp [hk]
      have e3 : (x.k == 3) = false := by simp [hk]
      have e4 : (x.k == 4) = false := by simp [hk]
      have e5 : (x.k == 5) = false := by simp [hk]
      have e6 : (x.k == 6) = true := by simp [hk]
      clear hk
      go_enter Tryz.func32, Tryz.ntmps32
      go_wp2_with (first
        | (refine rw_alloc (α := Cv) rfl rfl ?_)
        | (refine rw_load (α := Ch) rfl (.tmp 3) rfl (w.heap.size + 1) 0 rfl x (range_row HF0.out.xb) ?_))
      refine HCK.out.mono ?_
      rintro r w2 ⟨rfl, hb2⟩
      have HF2 := Lib.hid (HF0.out.below hb2)
      obtain ⟨⟨x0, -, -, -⟩, -⟩ := ch_cells HF2.out.xb
      have HD := Lib.hid (HDO.out w2 HF2.out.bl)
      clear hb2 HCK HDO
      go_wp2_with (first
        | (refine rw_load (α := Cv) rfl (.tmp 2) rfl w.heap.size 0 rfl cv (range_row HF2.out.cb) ?_)
        | (refine rw_load (α := Ch) rfl (.tmp 3) rfl (w.heap.size + 1) 0 rfl x (range_row HF2.out.xb) ?_))
      refine HD.out.mono ?_
      rintro r w3 ⟨cv', rfl, hca', hb3⟩
      have HC3 := Lib.hid (hca'.below (bel_box (o := .cells (arr cv') 30)))
      have HF3 := Lib.hid ((HF2.out.below hb3).below (bel_box (o := .cells (arr cv') 30)))
      have HN3 := Lib.hid (heap_alloc_new w3 (.cells (arr cv') 30))
      clear hb3 hca' HD x0 
      obtain ⟨d1, d2⟩ := D
      cases d2 with
      | true =>
        obtain rfl := HP.out.trans (if_pos rfl)
        go_wp2_with (first
          | (refine rw_put (α := Cv) _ 7 (.tmp 30) rfl rfl rfl rfl rfl rfl cv' rfl rfl ?_)
          | (refine rw_load (α := Cv) rfl (.tmp 7) rfl w3.heap.size 0 rfl cv' (range_row HN3.out) ?_)
          | (refine rw_store (α := Cv) rfl (.tmp 4) (.tmp 35) rfl (w.heap.size + 2) cv' _ (arr_size _) rfl rfl HF3.out.zb ?_; intro w5 hb5 hg5 hs5; have HC5 := Lib.hid hb5; have HB5 := Lib.hid (HF3.out.ret hg5); have HE5 := Lib.hid (And.intro (And.intro (HC3.out.hs.grown hg5 HF3.out.zb (by decide)) (HC3.out.fs.grown hg5 HF3.out.zb (by decide))) (And.intro (HC3.out.ns.grown hg5 HF3.out.zb (by decide)) (HC3.out.bs.grown hg5 HF3.out.zb (by decide)))); clear hb5 hg5 hs5))
        (try simp only [Exit.inBlock, Exit.then])
        refine bodyPost_ret (res_row (α := Cv) Tryz.results32 _ _ (w.heap.size + 2) cv' (.bool true) rfl rfl HC5.out) rfl ?_
        exact ⟨_, rfl, ⟨HE5.out.1.1, HE5.out.1.2, HE5.out.2.1, HE5.out.2.2⟩, HB5.out⟩
      | false =>
        obtain rfl := HP.out.trans (if_neg (by simp))
        go_wp2_with (first
          | (refine rw_put (α := Cv) _ 7 (.tmp 30) rfl rfl rfl rfl rfl rfl cv' rfl rfl ?_)
          | (refine rw_load (α := Cv) rfl (.tmp 2) rfl w.heap.size 0 rfl cv (range_row HF3.out.cb) ?_)
          | (refine rw_store (α := Cv) rfl (.tmp 4) (.tmp 34) rfl (w.heap.size + 2) cv _ (arr_size _) rfl rfl HF3.out.zb ?_; intro w5 hb5 hg5 hs5; have HC5 := Lib.hid hb5; have HB5 := Lib.hid (HF3.out.ret hg5); clear hb5 hg5 hs5))
        (try simp only [Exit.inBlock, Exit.then])
        refine bodyPost_ret (res_row (α := Cv) Tryz.results32 _ _ (w.heap.size + 2) cv (.bool false) rfl rfl HC5.out) rfl ?_
        exact ⟨_, rfl, HCA.out.below HB5.out, HB5.out⟩
    · have e1 : (x.k == 1) = false := by simp [hk]
      have e2 : (x.k == 2) = false := by simp [hk]
      have e3 : (x.k == 3) = false := by simp [hk]
      have e4 : (x.k == 4) = false := by simp [hk]
      have e5 : (x.k == 5) = false := by simp [hk]
      have e6 : (x.k == 6) = false := by simp [hk]
      have e7 : (x.k == 7) = true := by simp [hk]
      clear hk
      go_enter Tryz.func32, Tryz.ntmps32
      go_wp2_with (first
        | (refine rw_alloc (α := Cv) rfl rfl ?_)
        | (refine rw_load (α := Ch) rfl (.tmp 3) rfl (w.heap.size + 1) 0 rfl x (range_row HF0.out.xb) ?_))
      refine HCK.out.mono ?_
      rintro r w2 ⟨rfl, hb2⟩
      have HF2 := Lib.hid (HF0.out.below hb2)
      obtain ⟨⟨x0, -, -, -⟩, -⟩ := ch_cells HF2.out.xb
      have HD := Lib.hid (HDO.out w2 HF2.out.bl)
      clear hb2 HCK HDO
      go_wp2_with (first
        | (refine rw_load (α := Cv) rfl (.tmp 2) rfl w.heap.size 0 rfl cv (range_row HF2.out.cb) ?_)
        | (refine rw_load (α := Ch) rfl (.tmp 3) rfl (w.heap.size + 1) 0 rfl x (range_row HF2.out.xb) ?_))
      refine HD.out.mono ?_
      rintro r w3 ⟨cv', rfl, hca', hb3⟩
      have HC3 := Lib.hid (hca'.below (bel_box (o := .cells (arr cv') 30)))
      have HF3 := Lib.hid ((HF2.out.below hb3).below (bel_box (o := .cells (arr cv') 30)))
      have HN3 := Lib.hid (heap_alloc_new w3 (.cells (arr cv') 30))
      clear hb3 hca' HD x0 
      obtain ⟨d1, d2⟩ := D
      cases d2 with
      | true =>
        obtain rfl := HP.out.trans (if_pos rfl)
        go_wp2_with (first
          | (refine rw_put (α := Cv) _ 7 (.tmp 30) rfl rfl rfl rfl rfl rfl cv' rfl rfl ?_)
          | (refine rw_load (α := Cv) rfl (.tmp 7) rfl w3.heap.size 0 rfl cv' (range_row HN3.out) ?_)
          | (refine rw_store (α := Cv) rfl (.tmp 4) (.tmp 35) rfl (w.heap.size + 2) cv' _ (arr_size _) rfl rfl HF3.out.zb ?_; intro w5 hb5 hg5 hs5; have HC5 := Lib.hid hb5; have HB5 := Lib.hid (HF3.out.ret hg5); have HE5 := Lib.hid (And.intro (And.intro (HC3.out.hs.grown hg5 HF3.out.zb (by decide)) (HC3.out.fs.grown hg5 HF3.out.zb (by decide))) (And.intro (HC3.out.ns.grown hg5 HF3.out.zb (by decide)) (HC3.out.bs.grown hg5 HF3.out.zb (by decide)))); clear hb5 hg5 hs5))
        (try simp only [Exit.inBlock, Exit.then])
        refine bodyPost_ret (res_row (α := Cv) Tryz.results32 _ _ (w.heap.size + 2) cv' (.bool true) rfl rfl HC5.out) rfl ?_
        exact ⟨_, rfl, ⟨HE5.out.1.1, HE5.out.1.2, HE5.out.2.1, HE5.out.2.2⟩, HB5.out⟩
      | false =>
        obtain rfl := HP.out.trans (if_neg (by simp))
        go_wp2_with (first
          | (refine rw_put (α := Cv) _ 7 (.tmp 30) rfl rfl rfl rfl rfl rfl cv' rfl rfl ?_)
          | (refine rw_load (α := Cv) rfl (.tmp 2) rfl w.heap.size 0 rfl cv (range_row HF3.out.cb) ?_)
          | (refine rw_store (α := Cv) rfl (.tmp 4) (.tmp 34) rfl (w.heap.size + 2) cv _ (arr_size _) rfl rfl HF3.out.zb ?_; intro w5 hb5 hg5 hs5; have HC5 := Lib.hid hb5; have HB5 := Lib.hid (HF3.out.ret hg5); clear hb5 hg5 hs5))
        (try simp only [Exit.inBlock, Exit.then])
        refine bodyPost_ret (res_row (α := Cv) Tryz.results32 _ _ (w.heap.size + 2) cv (.bool false) rfl rfl HC5.out) rfl ?_
        exact ⟨_, rfl, HCA.out.below HB5.out, HB5.out⟩
    · have e1 : (x.k == 1) = false := by simp [n1]
      have e2 : (x.k == 2) = false := by simp [n2]
      have e3 : (x.k == 3) = false := by simp [n3]
      have e4 : (x.k == 4) = false := by simp [n4]
      have e5 : (x.k == 5) = false := by simp [n5]
      have e6 : (x.k == 6) = false := by simp [n6]
      have e7 : (x.k == 7) = false := by simp [n7]
      clear n1 n2 n3 n4 n5 n6 n7
      go_enter Tryz.func32, Tryz.ntmps32
      go_wp2_with (first
        | (refine rw_alloc (α := Cv) rfl rfl ?_)
        | (refine rw_load (α := Ch) rfl (.tmp 3) rfl (w.heap.size + 1) 0 rfl x (range_row HF0.out.xb) ?_))
      refine HCK.out.mono ?_
      rintro r w2 ⟨rfl, hb2⟩
      have HF2 := Lib.hid (HF0.out.below hb2)
      obtain ⟨⟨x0, -, -, -⟩, -⟩ := ch_cells HF2.out.xb
      have HD := Lib.hid (HDO.out w2 HF2.out.bl)
      clear hb2 HCK HDO
      go_wp2_with (first
        | (refine rw_load (α := Cv) rfl (.tmp 2) rfl w.heap.size 0 rfl cv (range_row HF2.out.cb) ?_)
        | (refine rw_load (α := Ch) rfl (.tmp 3) rfl (w.heap.size + 1) 0 rfl x (range_row HF2.out.xb) ?_))
      refine HD.out.mono ?_
      rintro r w3 ⟨cv', rfl, hca', hb3⟩
      have HC3 := Lib.hid (hca'.below (bel_box (o := .cells (arr cv') 30)))
      have HF3 := Lib.hid ((HF2.out.below hb3).below (bel_box (o := .cells (arr cv') 30)))
      have HN3 := Lib.hid (heap_alloc_new w3 (.cells (arr cv') 30))
      clear hb3 hca' HD x0 
      obtain ⟨d1, d2⟩ := D
      cases d2 with
      | true =>
        obtain rfl := HP.out.trans (if_pos rfl)
        go_wp2_with (first
          | (refine rw_put (α := Cv) _ 7 (.tmp 30) rfl rfl rfl rfl rfl rfl cv' rfl rfl ?_)
          | (refine rw_load (α := Cv) rfl (.tmp 7) rfl w3.heap.size 0 rfl cv' (range_row HN3.out) ?_)
          | (refine rw_store (α := Cv) rfl (.tmp 4) (.tmp 35) rfl (w.heap.size + 2) cv' _ (arr_size _) rfl rfl HF3.out.zb ?_; intro w5 hb5 hg5 hs5; have HC5 := Lib.hid hb5; have HB5 := Lib.hid (HF3.out.ret hg5); have HE5 := Lib.hid (And.intro (And.intro (HC3.out.hs.grown hg5 HF3.out.zb (by decide)) (HC3.out.fs.grown hg5 HF3.out.zb (by decide))) (And.intro (HC3.out.ns.grown hg5 HF3.out.zb (by decide)) (HC3.out.bs.grown hg5 HF3.out.zb (by decide)))); clear hb5 hg5 hs5))
        (try simp only [Exit.inBlock, Exit.then])
        refine bodyPost_ret (res_row (α := Cv) Tryz.results32 _ _ (w.heap.size + 2) cv' (.bool true) rfl rfl HC5.out) rfl ?_
        exact ⟨_, rfl, ⟨HE5.out.1.1, HE5.out.1.2, HE5.out.2.1, HE5.out.2.2⟩, HB5.out⟩
      | false =>
        obtain rfl := HP.out.trans (if_neg (by simp))
        go_wp2_with (first
          | (refine rw_put (α := Cv) _ 7 (.tmp 30) rfl rfl rfl rfl rfl rfl cv' rfl rfl ?_)
          | (refine rw_load (α := Cv) rfl (.tmp 2) rfl w.heap.size 0 rfl cv (range_row HF3.out.cb) ?_)
          | (refine rw_store (α := Cv) rfl (.tmp 4) (.tmp 34) rfl (w.heap.size + 2) cv _ (arr_size _) rfl rfl HF3.out.zb ?_; intro w5 hb5 hg5 hs5; have HC5 := Lib.hid hb5; have HB5 := Lib.hid (HF3.out.ret hg5); clear hb5 hg5 hs5))
        (try simp only [Exit.inBlock, Exit.then])
        refine bodyPost_ret (res_row (α := Cv) Tryz.results32 _ _ (w.heap.size + 2) cv (.bool false) rfl rfl HC5.out) rfl ?_
        exact ⟨_, rfl, HCA.out.below HB5.out, HB5.out⟩
end Go.Proofs.YtokhnbdhcehonaaGreat
