/- index: what the law on asks wants besides. -/
import Derived.Test.YtokhnbdhcehonaaGreatMade
import Derived.Test.YtokhnbdhcehonaaGreatLg
import Derived.Test.YtokhnbdhcehonaaGreatOpen18
set_option linter.unusedSimpArgs false
set_option linter.unusedVariables false
namespace Go.Proofs.YtokhnbdhcehonaaGreat
open Go Go.RowKit Row
set_option maxRecDepth 100000
set_option maxHeartbeats 8000000 in
theorem equal_hd (a b : Hd) (w : World) : (Op.equalIn 10000 40 (.agg (arr a)) (.agg (arr b))).run Tryz.prog w = .ok (decide (a = b)) w := by
  by_cases h : a = b
  · subst h
    simp only [arr, cells, Hd.cells]
    go_simp
  · rw [decide_eq_false h]
    obtain ⟨a0, a1, a2⟩ := a
    obtain ⟨b0, b1, b2⟩ := b
    simp only [arr, cells, Hd.cells]
    go_simp
    intro h0 h1 h2
    exact h (by rw [h0, h1, bytes_ext h2])
theorem noGuard40 : Tryz.prog.eqGuardType Tryz.prog.depth 40 = false := by kernel_rfl
section
variable {w : World} {o : Oper} {a : Act} {K : World → Prop}
theorem gives_neq40 (x y : Operand) (t : TypeId) (ho : o.op = .binOp .neq 40 x y t) (p q : Hd) (hx : a.eval x = .agg (arr p)) (hy : a.eval y = .agg (arr q)) {b : Bool} (hb : (!decide (p = q)) = b) (hK : K w) : givesR Tryz.prog K (.bool b) ((execOp a.eval o).run Tryz.prog w) := by
  unfold execOp
  simp only [ho, hx, hy, Sem.run_bind, Sem.run_pure, Result.andThen_ok, run_eqGuard_agg (hm := noGuard40), run_neq_struct, equal_hd, hb]
  exact ⟨rfl, hK⟩
theorem gives_neq45 (x y : Operand) (t : TypeId) (ho : o.op = .binOp .neq 45 x y t) (p q : At) (hx : a.eval x = .agg (arr p)) (hy : a.eval y = .agg (arr q)) {b : Bool} (hb : (!decide (p = q)) = b) (hK : K w) : givesR Tryz.prog K (.bool b) ((execOp a.eval o).run Tryz.prog w) := by
  unfold execOp
  simp only [ho, hx, hy, Sem.run_bind, Sem.run_pure, Result.andThen_ok, run_eqGuard_agg (hm := noGuard45), run_neq_struct, equal_at, hb]
  exact ⟨rfl, hK⟩
theorem gives_neq69 (x y : Operand) (t : TypeId) (ho : o.op = .binOp .neq 69 x y t) (p q : Ch) (hx : a.eval x = .agg (arr p)) (hy : a.eval y = .agg (arr q)) {b : Bool} (hb : (!decide (p = q)) = b) (hK : K w) : givesR Tryz.prog K (.bool b) ((execOp a.eval o).run Tryz.prog w) := by
  unfold execOp
  simp only [ho, hx, hy, Sem.run_bind, Sem.run_pure, Result.andThen_ok, run_eqGuard_agg (hm := noGuard69), run_neq_struct, equal_ch, hb]
  exact ⟨rfl, hK⟩
end
theorem plc_find2 {α κ : Type} [DecidableEq κ] (k : α → κ) (l : List α) (q : κ) : (∃ i : Nat, ∃ hi : i < l.length, plc (fun y => decide (k y = q)) l = i ∧ find k l q = some l[i]) ∨ (plc (fun y => decide (k y = q)) l = -1 ∧ find k l q = none) := by
  rcases plc_cases (fun y => decide (k y = q)) l with ⟨i, hi, hpi, he, hno⟩ | ⟨hpi, hno⟩
  · exact .inl ⟨i, hi, hpi, find_first hi (fun y hy => by simpa using hno y hy) (by simpa using he)⟩
  · exact .inr ⟨hpi, find_none.2 (fun y hy => by simpa using hno y hy)⟩
theorem fl_range {w : World} {b o : Nat} {x : Fl} (h : w.rangeAt b o (cells x)) : w.rangeAt b (o + 1) (cells x.a) := fun j u hu => by
  have := h (j + 1) u (by simpa [cells] using hu)
  rwa [show o + (j + 1) = o + 1 + j by omega] at this
set_option maxHeartbeats 4000000 in
theorem rheld_any {l : List Hd} {cv : Cv} {w : World} (h : Rs w 0 cv.a.v l) (e s : Int) :
    Calls Tryz.prog 16 #[.agg (arr cv), .int .i64 e, .int .i64 s] w fun r w' => r = .returned (.int .i64 (plc (fun y => decide (kH y = (e, s))) l)) ∧ Below w.heap.size w w' := by
  have hb0 : Below w.heap.size w (w.alloc (.cells (arr cv) 30)) := bel_box
  have c0 := (cv_cells (heap_alloc_new w (.cells (arr cv) 30))).1
  have HP := Lib.hid (pheld_any (h.below hb0) e s)
  have HB := Lib.hid hb0
  clear h hb0
  generalize plc (fun y => decide (kH y = (e, s))) l = P at HP ⊢
  go_enter Tryz.func16, Tryz.ntmps16
  go_wp2_with fail
  refine HP.out.mono ?_
  rintro r w1 ⟨rfl, hb1⟩
  have HB1 := Lib.hid (HB.out.trans (hb1.mono HB.out.size))
  clear hb1 c0
  go_wp2_with fail
  go_ret
  exact ⟨rfl, HB1.out⟩
end Go.Proofs.YtokhnbdhcehonaaGreat
/- index: the walk of IndexAsks. -/
namespace Go.Proofs.YtokhnbdhcehonaaGreat
open Go Go.RowKit Row
set_option maxRecDepth 100000
/-- the cache's box, and the cache in it -/
structure Fq (w wq : World) (g : Nat) (cv : Cv) (c : Ca) : Prop where
  bl : Below w.heap.size w wq
  cb : wq.heap[g]? = some (.cells (arr cv) 30)
  ca : CaAt wq cv c
theorem Fq.below {w wq w' : World} {g : Nat} {cv : Cv} {c : Ca} (h : Fq w wq g cv c) (hb : Below wq.heap.size wq w') : Fq w w' g cv c :=
  ⟨h.bl.trans (hb.mono h.bl.size), (hb.block _ (heap_lt h.cb)).trans h.cb, h.ca.below hb⟩
def AskV (w : World) (r : Ending) (w' : World) : Prop := r = .returned (.bool true) ∧ Below w.heap.size w w'
set_option maxHeartbeats 64000000 in
theorem asks_walk {l : List Ch} {v : Value} {w : World} (h : Ro w v l) (ep no : Int) (up name : ByteArray) :
    Calls Tryz.prog 4 #[v, .int .i64 ep, .string up, .string name, .int .i64 no] w (AskV w) := by
  have HL := Lib.hid h
  have HLG := Lib.hid (large_any h)
  obtain ⟨A, cap, hv, hlc, hcap⟩ := h.any
  subst hv
  clear h
  have hm63 : maxLen = 9223372036854775807 := rfl
  obtain ⟨b1, h1⟩ : ∃ b, decide ((100 : Int) < (up.size : Int)) = b := ⟨_, rfl⟩
  obtain ⟨b2, h2⟩ : ∃ b, decide ((300 : Int) < (name.size : Int)) = b := ⟨_, rfl⟩
  go_enter Tryz.func4, Tryz.ntmps4
  go_wp2_with fail
  refine HLG.out.mono ?_
  rintro r w1 ⟨b, rfl, hb40, hww⟩
  obtain rfl := hww
  have H40 := Lib.hid hb40
  clear hb40 HLG
  cases b with
  | true =>
    go_wp2_with fail
    refine (kn_any _).mono ?_
    rintro r w2 ⟨rfl, hb2⟩
    go_wp2_with fail
    go_ret
    exact ⟨rfl, hb2⟩
  | false =>
  cases b1 with
  | true =>
    go_wp2_with fail
    refine (kn_any _).mono ?_
    rintro r w2 ⟨rfl, hb2⟩
    go_wp2_with fail
    go_ret
    exact ⟨rfl, hb2⟩
  | false =>
  cases b2 with
  | true =>
    go_wp2_with fail
    refine (kn_any _).mono ?_
    rintro r w2 ⟨rfl, hb2⟩
    go_wp2_with fail
    go_ret
    exact ⟨rfl, hb2⟩
  | false =>
  have HMD := Lib.hid (made_any HL.out (Nat.le_trans (H40.out rfl) (by decide)))
  have hmo := madeC_ok l l.length (Nat.le_refl _)
  rw [List.take_length] at hmo
  have HRI := Lib.hid hmo.1
  clear hmo
  generalize madeC l = c at HMD HRI
  go_wp2_with fail
  refine HMD.out.mono ?_
  rintro r w2 ⟨cv, rfl, hca, hb2⟩
  have HF2 : Hid (Fq w1 (w2.alloc (.cells (arr cv) (RowT.T Cv))) w2.heap.size cv c) := Lib.hid ⟨hb2.trans (bel_box.mono hb2.size), heap_alloc_new _ _, hca.below bel_box⟩
  have HQ0 := Lib.hid (holds_any HF2.out.ca HRI.out.hs ep no)
  clear hca hb2 HMD HL H40
  obtain ⟨g, hg⟩ : ∃ g, g = w2.heap.size := ⟨_, rfl⟩
  go_wp2_with (first
    | (refine rw_put (α := Cv) _ 11 (.tmp 33) rfl rfl rfl rfl rfl rfl cv rfl rfl ?_)
    | (refine rw_load (α := Cv) rfl (.tmp 11) rfl w2.heap.size 0 rfl cv (range_row HF2.out.cb) ?_))
  rw [← hg]
  rw [← hg] at HF2
  clear hg
  obtain ⟨y1, hy1⟩ : ∃ y, y = (find kH c.hs (ep, no)).getD RowT.z := ⟨_, rfl⟩
  obtain ⟨s1, hs1⟩ : ∃ s, s = (find kH c.hs (ep, no)).isSome := ⟨_, rfl⟩
  obtain ⟨P1, hP1⟩ : ∃ P, P = plc (fun y => decide (kH y = (ep, no))) c.hs := ⟨_, rfl⟩
  have HK1 : Hid ((∃ i : Nat, ∃ hi : i < c.hs.length, P1 = i ∧ s1 = true ∧ y1 = c.hs[i]) ∨ (P1 = -1 ∧ s1 = false ∧ y1 = RowT.z)) := Lib.hid (by
    rcases plc_find2 kH c.hs (ep, no) with ⟨i, hi, hp, hf⟩ | ⟨hp, hf⟩
    · exact .inl ⟨i, hi, hP1.trans hp, by rw [hs1, hf]; rfl, by rw [hy1, hf]; rfl⟩
    · exact .inr ⟨hP1.trans hp, by rw [hs1, hf]; rfl, by rw [hy1, hf]; rfl⟩)
  rw [← hy1, ← hs1] at HQ0
  refine HQ0.out.mono ?_
  rintro r w3 ⟨rfl, hb3⟩
  have HF3 := Lib.hid (HF2.out.below hb3)
  have HR3 := Lib.hid (rheld_any HF3.out.ca.hs ep no)
  rw [← hP1] at HR3
  clear hb3 HQ0 hy1 hs1 hP1
  go_wp2_with (refine rw_load (α := Cv) rfl (.tmp 11) rfl g 0 rfl cv (range_row HF3.out.cb) ?_)
  refine HR3.out.mono ?_
  rintro r w4 ⟨rfl, hb4⟩
  have HF4 := Lib.hid (HF3.out.below hb4)
  clear hb4 HR3
  go_upto_region 6 with fail
  go_cut [69] from 45 to 69 (fun s wx => s = .bool false ∧ wx = w4)
  case first =>
    rcases HK1.out with ⟨i, hi, hp, hs, hy⟩ | ⟨hp, hs, hy⟩
    · subst hp
      subst hs
      subst hy
      have hr := HF4.out.ca.hs
      have c0 := (cv_cells HF4.out.cb).1
      obtain ⟨b, off, cap', he, hb1, hb2⟩ := hr.shape (by omega)
      rw [he] at c0 hr
      have r2 : w4.cell? ⟨b, off + i * 3 + 2, none⟩ = some (.string c.hs[i].up) := hr.range hi 2 _ rfl
      have hi0 : decide ((0 : Int) ≤ (i : Int)) = true := decide_eq_true (by omega)
      have hi1 : (i : Int) < (c.hs.length : Int) := by omega
      clear hr he
      go_wp2_with fail
      go_meet
      exact ⟨rfl, rfl⟩
    · subst hp
      subst hs
      subst hy
      go_wp2_with fail
      go_meet
      exact ⟨by rw [show (RowT.z : Hd).up.toList = [] from nil_toList]; rfl, rfl⟩
  case rest =>
  obtain ⟨rfl, hwc⟩ := hcut
  obtain rfl := hwc
  obtain ⟨w4, hw4⟩ : ∃ w4, w4 = wc := ⟨_, rfl⟩
  subst hw4
  have HQ1 := Lib.hid (issued_any HF4.out.ca up)
  obtain ⟨y2, hy2⟩ : ∃ y, y = (find kU c.hs up).getD RowT.z := ⟨_, rfl⟩
  obtain ⟨s2, hs2⟩ : ∃ s, s = (find kU c.hs up).isSome := ⟨_, rfl⟩
  obtain ⟨P2, hP2⟩ : ∃ P, P = plc (fun y => decide (kU y = up)) c.hs := ⟨_, rfl⟩
  have HK2 : Hid ((∃ i : Nat, ∃ hi : i < c.hs.length, P2 = i ∧ s2 = true ∧ y2 = c.hs[i]) ∨ (P2 = -1 ∧ s2 = false ∧ y2 = RowT.z)) := Lib.hid (by
    rcases plc_find2 kU c.hs up with ⟨i, hi, hp, hf⟩ | ⟨hp, hf⟩
    · exact .inl ⟨i, hi, hP2.trans hp, by rw [hs2, hf]; rfl, by rw [hy2, hf]; rfl⟩
    · exact .inr ⟨hP2.trans hp, by rw [hs2, hf]; rfl, by rw [hy2, hf]; rfl⟩)
  rw [← hy2, ← hs2] at HQ1
  clear HF2 HF3
  go_wp2_with (refine rw_load (α := Cv) rfl (.tmp 11) rfl g 0 rfl cv (range_row HF4.out.cb) ?_)
  refine HQ1.out.mono ?_
  rintro r w5 ⟨rfl, hb5⟩
  have HF5 := Lib.hid ((HF4.out.below hb5).below (bel_box (o := .cells (arr y2) (RowT.T Hd))))
  have HY5 := Lib.hid (heap_alloc_new w5 (.cells (arr y2) (RowT.T Hd)))
  have HR5 := Lib.hid (pissued_any HF5.out.ca.hs up)
  have c0 := (cv_cells HF5.out.cb).1
  rw [show (fun y : Hd => decide (kU y = up)) = (fun y : Hd => decide (kU y = up)) from rfl, ← hP2] at HR5
  clear hb5 HQ1 hy2 hs2 hP2
  go_wp2_with (refine rw_put (α := Hd) _ 15 (.tmp 74) rfl rfl rfl rfl rfl rfl y2 rfl rfl ?_)
  refine HR5.out.mono ?_
  rintro r w6 ⟨rfl, hb6⟩
  have HF6 := Lib.hid (HF5.out.below hb6)
  have HY6 := Lib.hid ((hb6.block _ (heap_lt HY5.out)).trans HY5.out)
  clear hb6 HR5 c0 HY5 HF5
  go_upto_region 10 with fail
  go_cut [104] from 80 to 104 (fun s wx => s = .bool false ∧ Below w6.heap.size w6 wx)
  case first =>
    rcases HK2.out with ⟨i, hi, hp, hs, hy⟩ | ⟨hp, hs, hy⟩
    · subst hp
      subst hs
      have HYE := Lib.hid hy
      clear hy
      obtain ⟨b, off, cap', he, hb1, hb2⟩ := HF6.out.ca.hs.shape (by omega)
      have HV := Lib.hid he
      have HE : Hid (∀ wS, Below w6.heap.size w6 wS → wS.rangeAt b (off + i * 3) (cells c.hs[i])) := Lib.hid (fun wS hS => by
        have hr := (HF6.out.below hS).ca.hs
        rw [HV.out] at hr
        exact hr.range hi)
      have HC : Hid (∀ wS, Below w6.heap.size w6 wS → wS.cell? ⟨g, 0, none⟩ = some (.slice (some ⟨b, off, none⟩) c.hs.length cap')) := Lib.hid (fun wS hS => by
        have := (cv_cells (HF6.out.below hS).cb).1
        rwa [HV.out] at this)
      have hi0 : decide ((0 : Int) ≤ (i : Int)) = true := decide_eq_true (by omega)
      have hi1 : (i : Int) < (c.hs.length : Int) := by omega
      clear he
      refine wp_region_flow2_lit [(0, false), (1, false), (2, false), (3, false), (4, false), (5, false), (6, false), (7, false), (8, false), (9, false), (10, false), (11, false), (12, false), (13, false), (14, false), (15, false), (16, false), (17, false), (18, false), (19, false), (20, false), (21, false), (22, false), (23, false), (24, false)] (fun wS => Below w6.heap.size w6 wS) (by kernel_rfl) (by kernel_rfl) (by kernel_rfl) (Below.refl _ _).drew ?_
      repeat (first | (refine' flow2_pass (o := _) rfl _ _; (focus rfl); simp only [Act.put, List.setIfInBounds_toArray, List.set_cons_zero, List.set_cons_succ]) | (refine' flow2_take (v := _) (o := _) rfl _ _ _; rotate_left; (focus rfl); (focus (intro wS hS; have hE := Ext.refl wS; (have c0 := HC.out wS hS; have hj0 := hi0; have hj1 := hi1); go_simp; try (with_reducible (first | exact ⟨rfl, hS, hE⟩ | rfl)); done)); simp only [Act.put, List.setIfInBounds_toArray, List.set_cons_zero, List.set_cons_succ]))
      (refine flow2_take (v := .agg (arr y2)) (o := _) rfl rfl (fun wS hS => gives_row rfl rfl (range_row ((hS.block _ (heap_lt HY6.out)).trans HY6.out)) ⟨hS, Ext.refl wS⟩) ?_; simp only [Act.put, List.setIfInBounds_toArray, List.set_cons_zero, List.set_cons_succ])
      repeat (first | (refine' flow2_pass (o := _) rfl _ _; (focus rfl); simp only [Act.put, List.setIfInBounds_toArray, List.set_cons_zero, List.set_cons_succ]) | (refine' flow2_take (v := _) (o := _) rfl _ _ _; rotate_left; (focus rfl); (focus (intro wS hS; have hE := Ext.refl wS; (have c0 := HC.out wS hS; have hj0 := hi0; have hj1 := hi1); go_simp; try (with_reducible (first | exact ⟨rfl, hS, hE⟩ | rfl)); done)); simp only [Act.put, List.setIfInBounds_toArray, List.set_cons_zero, List.set_cons_succ]))
      (refine flow2_take (v := .agg (arr c.hs[i])) (o := _) rfl rfl (fun wS hS => gives_row rfl rfl (HE.out wS hS) ⟨hS, Ext.refl wS⟩) ?_; simp only [Act.put, List.setIfInBounds_toArray, List.set_cons_zero, List.set_cons_succ])
      (refine flow2_take (v := .bool false) (o := _) rfl rfl (fun wS hS => gives_neq40 (.tmp 87) (.tmp 92) 40 rfl y2 c.hs[i] rfl rfl (by rw [HYE.out]; simp) ⟨hS, Ext.refl wS⟩) ?_; simp only [Act.put, List.setIfInBounds_toArray, List.set_cons_zero, List.set_cons_succ])
      repeat (first | (refine' flow2_pass (o := _) rfl _ _; (focus rfl); simp only [Act.put, List.setIfInBounds_toArray, List.set_cons_zero, List.set_cons_succ]) | (refine' flow2_take (v := _) (o := _) rfl _ _ _; rotate_left; (focus rfl); (focus (intro wS hS; have hE := Ext.refl wS; (skip); go_simp; try (with_reducible (first | exact ⟨rfl, hS, hE⟩ | rfl)); done)); simp only [Act.put, List.setIfInBounds_toArray, List.set_cons_zero, List.set_cons_succ]))
      refine flow2_nil ?_
      intro wT hE hS
      have hS2 := hS
      clear hE hS
      go_wp2_with fail
      go_meet
      exact ⟨rfl, hS2⟩
    · subst hp
      subst hs
      have HYE := Lib.hid hy
      clear hy
      refine wp_region_flow2_lit [(0, false), (1, false), (2, false), (3, false), (4, false), (5, false), (6, false), (7, false), (8, false), (9, false), (10, false), (11, false), (12, false), (13, false), (14, false), (15, false), (16, false), (17, false), (18, false), (19, false), (20, false), (21, false), (22, false), (23, false), (24, false)] (fun wS => Below w6.heap.size w6 wS) (by kernel_rfl) (by kernel_rfl) (by kernel_rfl) (Below.refl _ _).drew ?_
      repeat (first | (refine' flow2_pass (o := _) rfl _ _; (focus rfl); simp only [Act.put, List.setIfInBounds_toArray, List.set_cons_zero, List.set_cons_succ]) | (refine' flow2_take (v := _) (o := _) rfl _ _ _; rotate_left; (focus rfl); (focus (intro wS hS; have hE := Ext.refl wS; (skip); go_simp; try (with_reducible (first | exact ⟨rfl, hS, hE⟩ | rfl)); done)); simp only [Act.put, List.setIfInBounds_toArray, List.set_cons_zero, List.set_cons_succ]))
      (refine flow2_take (v := .agg (arr y2)) (o := _) rfl rfl (fun wS hS => gives_row rfl rfl (range_row ((hS.block _ (heap_lt HY6.out)).trans HY6.out)) ⟨hS, Ext.refl wS⟩) ?_; simp only [Act.put, List.setIfInBounds_toArray, List.set_cons_zero, List.set_cons_succ])
      repeat (first | (refine' flow2_pass (o := _) rfl _ _; (focus rfl); simp only [Act.put, List.setIfInBounds_toArray, List.set_cons_zero, List.set_cons_succ]) | (refine' flow2_take (v := _) (o := _) rfl _ _ _; rotate_left; (focus rfl); (focus (intro wS hS; have hE := Ext.refl wS; (skip); go_simp; try (with_reducible (first | exact ⟨rfl, hS, hE⟩ | rfl)); done)); simp only [Act.put, List.setIfInBounds_toArray, List.set_cons_zero, List.set_cons_succ]))
      (refine flow2_take (v := .bool false) (o := _) rfl rfl (fun wS hS => gives_neq40 (.tmp 100) (.tmp 101) 40 rfl y2 RowT.z rfl rfl (by rw [HYE.out]; simp) ⟨hS, Ext.refl wS⟩) ?_; simp only [Act.put, List.setIfInBounds_toArray, List.set_cons_zero, List.set_cons_succ])
      repeat (first | (refine' flow2_pass (o := _) rfl _ _; (focus rfl); simp only [Act.put, List.setIfInBounds_toArray, List.set_cons_zero, List.set_cons_succ]) | (refine' flow2_take (v := _) (o := _) rfl _ _ _; rotate_left; (focus rfl); (focus (intro wS hS; have hE := Ext.refl wS; (skip); go_simp; try (with_reducible (first | exact ⟨rfl, hS, hE⟩ | rfl)); done)); simp only [Act.put, List.setIfInBounds_toArray, List.set_cons_zero, List.set_cons_succ]))
      refine flow2_nil ?_
      intro wT hE hS
      have hS2 := hS
      clear hE hS
      go_wp2_with fail
      go_meet
      exact ⟨rfl, hS2⟩
  case rest =>
  obtain ⟨rfl, hwc⟩ := hcut
  obtain ⟨w7, hw7⟩ : ∃ w7, w7 = wc := ⟨_, rfl⟩
  subst hw7
  have HF7 := Lib.hid (HF6.out.below hwc)
  clear hwc HF4 HF6 HY6
  have HQ2 := Lib.hid (file_any HF7.out.ca HRI.out.fs up)
  obtain ⟨y3, hy3⟩ : ∃ y, y = (find kF c.fs up).getD RowT.z := ⟨_, rfl⟩
  obtain ⟨s3, hs3⟩ : ∃ s, s = (find kF c.fs up).isSome := ⟨_, rfl⟩
  obtain ⟨P3, hP3⟩ : ∃ P, P = plc (fun y => decide (kF y = up)) c.fs := ⟨_, rfl⟩
  have HK3 : Hid ((∃ i : Nat, ∃ hi : i < c.fs.length, P3 = i ∧ s3 = true ∧ y3 = c.fs[i]) ∨ (P3 = -1 ∧ s3 = false ∧ y3 = RowT.z)) := Lib.hid (by
    rcases plc_find2 kF c.fs up with ⟨i, hi, hp, hf⟩ | ⟨hp, hf⟩
    · exact .inl ⟨i, hi, hP3.trans hp, by rw [hs3, hf]; rfl, by rw [hy3, hf]; rfl⟩
    · exact .inr ⟨hP3.trans hp, by rw [hs3, hf]; rfl, by rw [hy3, hf]; rfl⟩)
  rw [← hy3, ← hs3] at HQ2
  go_wp2_with (refine rw_load (α := Cv) rfl (.tmp 11) rfl g 0 rfl cv (range_row HF7.out.cb) ?_)
  refine HQ2.out.mono ?_
  rintro r w8 ⟨rfl, hb8⟩
  have HF8 := Lib.hid ((HF7.out.below hb8).below (bel_box (o := .cells (arr y3.a) (RowT.T At))))
  have HY8 := Lib.hid (heap_alloc_new w8 (.cells (arr y3.a) (RowT.T At)))
  have HR8 := Lib.hid (pfile_any HF8.out.ca.fs up)
  rw [← hP3] at HR8
  clear hb8 HQ2 hy3 hs3 hP3
  go_wp2_with (first
    | (refine rw_put (α := At) _ 16 (.tmp 109) rfl rfl rfl rfl rfl rfl y3.a rfl rfl ?_)
    | (refine rw_load (α := Cv) rfl (.tmp 11) rfl g 0 rfl cv (range_row HF8.out.cb) ?_))
  refine HR8.out.mono ?_
  rintro r w9 ⟨rfl, hb9⟩
  have HF9 := Lib.hid (HF8.out.below hb9)
  have HY9 := Lib.hid ((hb9.block _ (heap_lt HY8.out)).trans HY8.out)
  clear hb9 HR8 HY8 HF8
  go_upto_region 14 with fail
  go_cut [139] from 114 to 139 (fun s wx => s = .bool false ∧ Below w9.heap.size w9 wx)
  case first =>
    rcases HK3.out with ⟨i, hi, hp, hs, hy⟩ | ⟨hp, hs, hy⟩
    · subst hp
      subst hs
      have HYE := Lib.hid hy
      clear hy
      obtain ⟨b, off, cap', he, hb1, hb2⟩ := HF9.out.ca.fs.shape (by omega)
      have HV := Lib.hid he
      have HE : Hid (∀ wS, Below w9.heap.size w9 wS → wS.rangeAt b (off + i * 11 + 1) (cells c.fs[i].a)) := Lib.hid (fun wS hS => by
        have hr := (HF9.out.below hS).ca.fs
        rw [HV.out] at hr
        exact fl_range (hr.range hi))
      have HC : Hid (∀ wS, Below w9.heap.size w9 wS → wS.cell? ⟨g, 1, none⟩ = some (.slice (some ⟨b, off, none⟩) c.fs.length cap')) := Lib.hid (fun wS hS => by
        have := (cv_cells (HF9.out.below hS).cb).2.1
        rwa [HV.out] at this)
      have hi0 : decide ((0 : Int) ≤ (i : Int)) = true := decide_eq_true (by omega)
      have hi1 : (i : Int) < (c.fs.length : Int) := by omega
      clear he
      refine wp_region_flow2_lit [(0, false), (1, false), (2, false), (3, false), (4, false), (5, false), (6, false), (7, false), (8, false), (9, false), (10, false), (11, false), (12, false), (13, false), (14, false), (15, false), (16, false), (17, false), (18, false), (19, false), (20, false), (21, false), (22, false), (23, false), (24, false), (25, false)] (fun wS => Below w9.heap.size w9 wS) (by kernel_rfl) (by kernel_rfl) (by kernel_rfl) (Below.refl _ _).drew ?_
      repeat (first | (refine' flow2_pass (o := _) rfl _ _; (focus rfl); simp only [Act.put, List.setIfInBounds_toArray, List.set_cons_zero, List.set_cons_succ]) | (refine' flow2_take (v := _) (o := _) rfl _ _ _; rotate_left; (focus rfl); (focus (intro wS hS; have hE := Ext.refl wS; (have c0 := HC.out wS hS; have hj0 := hi0; have hj1 := hi1); go_simp; try (with_reducible (first | exact ⟨rfl, hS, hE⟩ | rfl)); done)); simp only [Act.put, List.setIfInBounds_toArray, List.set_cons_zero, List.set_cons_succ]))
      (refine flow2_take (v := .agg (arr y3.a)) (o := _) rfl rfl (fun wS hS => gives_row rfl rfl (range_row ((hS.block _ (heap_lt HY9.out)).trans HY9.out)) ⟨hS, Ext.refl wS⟩) ?_; simp only [Act.put, List.setIfInBounds_toArray, List.set_cons_zero, List.set_cons_succ])
      repeat (first | (refine' flow2_pass (o := _) rfl _ _; (focus rfl); simp only [Act.put, List.setIfInBounds_toArray, List.set_cons_zero, List.set_cons_succ]) | (refine' flow2_take (v := _) (o := _) rfl _ _ _; rotate_left; (focus rfl); (focus (intro wS hS; have hE := Ext.refl wS; (have c0 := HC.out wS hS; have hj0 := hi0; have hj1 := hi1); go_simp; try (with_reducible (first | exact ⟨rfl, hS, hE⟩ | rfl)); done)); simp only [Act.put, List.setIfInBounds_toArray, List.set_cons_zero, List.set_cons_succ]))
      (refine flow2_take (v := .agg (arr c.fs[i].a)) (o := _) rfl rfl (fun wS hS => gives_row rfl rfl (HE.out wS hS) ⟨hS, Ext.refl wS⟩) ?_; simp only [Act.put, List.setIfInBounds_toArray, List.set_cons_zero, List.set_cons_succ])
      (refine flow2_take (v := .bool false) (o := _) rfl rfl (fun wS hS => gives_neq45 (.tmp 121) (.tmp 127) 45 rfl y3.a c.fs[i].a rfl rfl (by rw [HYE.out]; simp) ⟨hS, Ext.refl wS⟩) ?_; simp only [Act.put, List.setIfInBounds_toArray, List.set_cons_zero, List.set_cons_succ])
      repeat (first | (refine' flow2_pass (o := _) rfl _ _; (focus rfl); simp only [Act.put, List.setIfInBounds_toArray, List.set_cons_zero, List.set_cons_succ]) | (refine' flow2_take (v := _) (o := _) rfl _ _ _; rotate_left; (focus rfl); (focus (intro wS hS; have hE := Ext.refl wS; (skip); go_simp; try (with_reducible (first | exact ⟨rfl, hS, hE⟩ | rfl)); done)); simp only [Act.put, List.setIfInBounds_toArray, List.set_cons_zero, List.set_cons_succ]))
      refine flow2_nil ?_
      intro wT hE hS
      have hS2 := hS
      clear hE hS
      go_wp2_with fail
      go_meet
      exact ⟨rfl, hS2⟩
    · subst hp
      subst hs
      have HYE := Lib.hid hy
      clear hy
      refine wp_region_flow2_lit [(0, false), (1, false), (2, false), (3, false), (4, false), (5, false), (6, false), (7, false), (8, false), (9, false), (10, false), (11, false), (12, false), (13, false), (14, false), (15, false), (16, false), (17, false), (18, false), (19, false), (20, false), (21, false), (22, false), (23, false), (24, false), (25, false)] (fun wS => Below w9.heap.size w9 wS) (by kernel_rfl) (by kernel_rfl) (by kernel_rfl) (Below.refl _ _).drew ?_
      repeat (first | (refine' flow2_pass (o := _) rfl _ _; (focus rfl); simp only [Act.put, List.setIfInBounds_toArray, List.set_cons_zero, List.set_cons_succ]) | (refine' flow2_take (v := _) (o := _) rfl _ _ _; rotate_left; (focus rfl); (focus (intro wS hS; have hE := Ext.refl wS; (skip); go_simp; try (with_reducible (first | exact ⟨rfl, hS, hE⟩ | rfl)); done)); simp only [Act.put, List.setIfInBounds_toArray, List.set_cons_zero, List.set_cons_succ]))
      (refine flow2_take (v := .agg (arr y3.a)) (o := _) rfl rfl (fun wS hS => gives_row rfl rfl (range_row ((hS.block _ (heap_lt HY9.out)).trans HY9.out)) ⟨hS, Ext.refl wS⟩) ?_; simp only [Act.put, List.setIfInBounds_toArray, List.set_cons_zero, List.set_cons_succ])
      repeat (first | (refine' flow2_pass (o := _) rfl _ _; (focus rfl); simp only [Act.put, List.setIfInBounds_toArray, List.set_cons_zero, List.set_cons_succ]) | (refine' flow2_take (v := _) (o := _) rfl _ _ _; rotate_left; (focus rfl); (focus (intro wS hS; have hE := Ext.refl wS; (skip); go_simp; try (with_reducible (first | exact ⟨rfl, hS, hE⟩ | rfl)); done)); simp only [Act.put, List.setIfInBounds_toArray, List.set_cons_zero, List.set_cons_succ]))
      (refine flow2_take (v := .bool false) (o := _) rfl rfl (fun wS hS => gives_neq45 (.tmp 135) (.tmp 136) 45 rfl y3.a RowT.z rfl rfl (by rw [HYE.out]; decide) ⟨hS, Ext.refl wS⟩) ?_; simp only [Act.put, List.setIfInBounds_toArray, List.set_cons_zero, List.set_cons_succ])
      repeat (first | (refine' flow2_pass (o := _) rfl _ _; (focus rfl); simp only [Act.put, List.setIfInBounds_toArray, List.set_cons_zero, List.set_cons_succ]) | (refine' flow2_take (v := _) (o := _) rfl _ _ _; rotate_left; (focus rfl); (focus (intro wS hS; have hE := Ext.refl wS; (skip); go_simp; try (with_reducible (first | exact ⟨rfl, hS, hE⟩ | rfl)); done)); simp only [Act.put, List.setIfInBounds_toArray, List.set_cons_zero, List.set_cons_succ]))
      refine flow2_nil ?_
      intro wT hE hS
      have hS2 := hS
      clear hE hS
      go_wp2_with fail
      go_meet
      exact ⟨rfl, hS2⟩
  case rest =>
  obtain ⟨rfl, hwc⟩ := hcut
  obtain ⟨w10, hw10⟩ : ∃ w10, w10 = wc := ⟨_, rfl⟩
  subst hw10
  have HF10 := Lib.hid (HF9.out.below hwc)
  clear hwc HF7 HF9 HY9
  have HQ3 := Lib.hid (name_any HF10.out.ca HRI.out.ns up name)
  obtain ⟨y4, hy4⟩ : ∃ y, y = (find kN c.ns (up, name)).getD RowT.z := ⟨_, rfl⟩
  obtain ⟨s4, hs4⟩ : ∃ s, s = (find kN c.ns (up, name)).isSome := ⟨_, rfl⟩
  obtain ⟨P4, hP4⟩ : ∃ P, P = plc (fun y => decide (kN y = (up, name))) c.ns := ⟨_, rfl⟩
  have HK4 : Hid ((∃ i : Nat, ∃ hi : i < c.ns.length, P4 = i ∧ s4 = true ∧ y4 = c.ns[i]) ∨ (P4 = -1 ∧ s4 = false ∧ y4 = RowT.z)) := Lib.hid (by
    rcases plc_find2 kN c.ns (up, name) with ⟨i, hi, hp, hf⟩ | ⟨hp, hf⟩
    · exact .inl ⟨i, hi, hP4.trans hp, by rw [hs4, hf]; rfl, by rw [hy4, hf]; rfl⟩
    · exact .inr ⟨hP4.trans hp, by rw [hs4, hf]; rfl, by rw [hy4, hf]; rfl⟩)
  rw [← hy4, ← hs4] at HQ3
  go_wp2_with (refine rw_load (α := Cv) rfl (.tmp 11) rfl g 0 rfl cv (range_row HF10.out.cb) ?_)
  refine HQ3.out.mono ?_
  rintro r w11 ⟨rfl, hb11⟩
  have HF11 := Lib.hid (HF10.out.below hb11)
  have HR11 := Lib.hid (pname_any HF11.out.ca.ns up name)
  rw [← hP4] at HR11
  clear hb11 HQ3 hy4 hs4 hP4
  go_wp2_with (refine rw_load (α := Cv) rfl (.tmp 11) rfl g 0 rfl cv (range_row HF11.out.cb) ?_)
  refine HR11.out.mono ?_
  rintro r w12 ⟨rfl, hb12⟩
  have HF12 := Lib.hid (HF11.out.below hb12)
  clear hb12 HR11
  go_upto_region 18 with fail
  go_cut [175] from 151 to 175 (fun s wx => s = .bool false ∧ wx = w12)
  case first =>
    rcases HK4.out with ⟨i, hi, hp, hs, hy⟩ | ⟨hp, hs, hy⟩
    · subst hp
      subst hs
      subst hy
      have hr := HF12.out.ca.ns
      have c0 := (cv_cells HF12.out.cb).2.2.1
      obtain ⟨b, off, cap', he, hb1, hb2⟩ := hr.shape (by omega)
      rw [he] at c0 hr
      have r2 : w12.cell? ⟨b, off + i * 3 + 2, none⟩ = some (.string c.ns[i].up) := hr.range hi 2 _ rfl
      have hi0 : decide ((0 : Int) ≤ (i : Int)) = true := decide_eq_true (by omega)
      have hi1 : (i : Int) < (c.ns.length : Int) := by omega
      clear hr he
      go_wp2_with fail
      go_meet
      exact ⟨rfl, rfl⟩
    · subst hp
      subst hs
      subst hy
      go_wp2_with fail
      go_meet
      exact ⟨by rw [show (RowT.z : Nm).up.toList = [] from nil_toList]; rfl, rfl⟩
  case rest =>
  obtain ⟨rfl, hwc⟩ := hcut
  obtain rfl := hwc
  obtain ⟨w12, hw12⟩ : ∃ w12, w12 = wc := ⟨_, rfl⟩
  subst hw12
  clear HF10 HF11
  have HQ4 := Lib.hid (block_any HF12.out.ca HRI.out.bs up no)
  obtain ⟨y5, hy5⟩ : ∃ y, y = (find kB c.bs (up, no)).getD RowT.z := ⟨_, rfl⟩
  obtain ⟨s5, hs5⟩ : ∃ s, s = (find kB c.bs (up, no)).isSome := ⟨_, rfl⟩
  obtain ⟨P5, hP5⟩ : ∃ P, P = plc (fun y => decide (kB y = (up, no))) c.bs := ⟨_, rfl⟩
  have HK5 : Hid ((∃ i : Nat, ∃ hi : i < c.bs.length, P5 = i ∧ s5 = true ∧ y5 = c.bs[i]) ∨ (P5 = -1 ∧ s5 = false ∧ y5 = RowT.z)) := Lib.hid (by
    rcases plc_find2 kB c.bs (up, no) with ⟨i, hi, hp, hf⟩ | ⟨hp, hf⟩
    · exact .inl ⟨i, hi, hP5.trans hp, by rw [hs5, hf]; rfl, by rw [hy5, hf]; rfl⟩
    · exact .inr ⟨hP5.trans hp, by rw [hs5, hf]; rfl, by rw [hy5, hf]; rfl⟩)
  rw [← hy5, ← hs5] at HQ4
  go_wp2_with (refine rw_load (α := Cv) rfl (.tmp 11) rfl g 0 rfl cv (range_row HF12.out.cb) ?_)
  refine HQ4.out.mono ?_
  rintro r w13 ⟨rfl, hb13⟩
  have HF13 := Lib.hid (HF12.out.below hb13)
  have HR13 := Lib.hid (pblock_any HF13.out.ca.bs up no)
  rw [← hP5] at HR13
  clear hb13 HQ4 hy5 hs5 hP5
  go_wp2_with (refine rw_load (α := Cv) rfl (.tmp 11) rfl g 0 rfl cv (range_row HF13.out.cb) ?_)
  refine HR13.out.mono ?_
  rintro r w14 ⟨rfl, hb14⟩
  have HF14 := Lib.hid (HF13.out.below hb14)
  clear hb14 HR13
  rcases HK5.out with ⟨i, hi, hp, hs, hy⟩ | ⟨hp, hs, hy⟩
  · subst hp
    subst hs
    subst hy
    have hr := HF14.out.ca.bs
    have c0 := (cv_cells HF14.out.cb).2.2.2
    obtain ⟨b, off, cap', he, hb1, hb2⟩ := hr.shape (by omega)
    rw [he] at c0 hr
    have r2 : w14.cell? ⟨b, off + i * 3 + 2, none⟩ = some (.int .i64 c.bs[i].sl) := hr.range hi 2 _ rfl
    have hi0 : decide ((0 : Int) ≤ (i : Int)) = true := decide_eq_true (by omega)
    have hi1 : (i : Int) < (c.bs.length : Int) := by omega
    clear hr he
    go_wp2_with fail
    refine (kn_any _).mono ?_
    rintro r w15 ⟨rfl, hb15⟩
    have HB15 := Lib.hid (HF14.out.below hb15).bl
    clear hb15
    go_wp2_with fail
    go_ret
    exact ⟨rfl, HB15.out⟩
  · subst hp
    subst hs
    subst hy
    go_wp2_with fail
    refine (kn_any _).mono ?_
    rintro r w15 ⟨rfl, hb15⟩
    have HB15 := Lib.hid (HF14.out.below hb15).bl
    clear hb15
    go_wp2_with fail
    go_ret
    exact ⟨rfl, HB15.out⟩
end Go.Proofs.YtokhnbdhcehonaaGreat
/- index: IndexAsks on whatever came in. -/
namespace Go.Proofs.YtokhnbdhcehonaaGreat
open Go Go.RowKit Row
theorem asks_all (A : Option Addr) (L : List Ch) (cap : Nat) (hc : L.length ≤ cap) (hm : cap ≤ maxLen) (_hall : ∀ x ∈ L, x.ok) (ep : Int) (up : ByteArray) {p : Prop} (_ : p) (name : ByteArray) {q : Prop} (_ : q) (no : Int) (w : World) (hs : RowsAt w A 18 (L.map cells)) :
    Calls Tryz.prog 4 #[.slice A L.length cap, .int .i64 ep, .string up, .string name, .int .i64 no] w fun e w' => e = .returned (.bool true) ∧ Below w.heap.size w w' := asks_walk (ro_of hc hm hs) ep no up name
end Go.Proofs.YtokhnbdhcehonaaGreat
