/- pend.Table: Put refused; Drop; nil. -/
import Derived.Test.YtbhiddppohbjhaaOps2
namespace Go.Proofs.Ytbhiddppohbjhaa
open Go Go.RowKit Go.Maps Go.WideShapes Go.ChangeMaps Go.WideMaps Go.MapKept
set_option maxRecDepth 100000
def StayB (w : World) (e : Ending) (w' : World) : Prop := e = .returned (.bool false) ∧ Below w.heap.size w w'
set_option maxHeartbeats 8000000 in
theorem put_nil {p : Pd} (w : World) : Calls Try.prog 21 #[.pointer none, .agg p.arr] w (StayB w) := by
  have H1 := Lib.hid made_nil
  have a0 : p.arr[0]? = some (.int .i64 p.cl) := rfl
  go_enter Try.func21, Try.ntmps21
  go_wp2_with fail
  refine (H1.out _).mono ?_
  rintro e w1 ⟨rfl, rfl⟩
  go_wp2_with fail
  go_ret
  exact ⟨rfl, by go_grown⟩
section
variable {w : World} {B g mb : Nat} {M : Tb}
set_option maxHeartbeats 8000000 in
theorem put_out (h : PA w B g mb M) {p : Pd} (hc : ¬ (1 ≤ p.cl ∧ p.cl ≤ 4)) : Calls Try.prog 21 #[.pointer (some ⟨g, 0, none⟩), .agg p.arr] w (StayB w) := by
  have hb1 : Below w.heap.size w (w.alloc (.cells p.arr 37)) := by go_grown
  have H1 := Lib.hid (made_yes (h.below hb1))
  have a0 : p.arr[0]? = some (.int .i64 p.cl) := rfl
  clear h hb1
  by_cases i1 : p.cl < 1
  · have d1 : decide (p.cl < 1) = true := decide_eq_true i1
    go_enter Try.func21, Try.ntmps21
    go_wp2_with fail
    refine H1.out.mono ?_
    rintro e w1 ⟨rfl, rfl⟩
    go_wp2_with fail
    go_ret
    exact ⟨rfl, by go_grown⟩
  · have i2 : 4 < p.cl := by omega
    have d1 : decide (p.cl < 1) = false := decide_eq_false i1
    have d2 : decide (4 < p.cl) = true := decide_eq_true i2
    go_enter Try.func21, Try.ntmps21
    go_wp2_with fail
    refine H1.out.mono ?_
    rintro e w1 ⟨rfl, rfl⟩
    go_wp2_with fail
    go_ret
    exact ⟨rfl, by go_grown⟩
set_option maxHeartbeats 8000000 in
theorem put_twice (h : PA w B g mb M) {p : Pd} (hc : 1 ≤ p.cl ∧ p.cl ≤ 4) {o : Pd} (ho : byK M p.up = some o) (hne : o.cl ≠ p.cl) : Calls Try.prog 21 #[.pointer (some ⟨g, 0, none⟩), .agg p.arr] w (StayB w) := by
  have hb1 : Below w.heap.size w (w.alloc (.cells p.arr 37)) := by go_grown
  have h1 := h.below hb1
  have H1 := Lib.hid (made_yes h1)
  have h2 := by_any h1 p.up
  rw [ho] at h2
  have hok : o.ok := by
    obtain ⟨k, _, _, hk, _⟩ := by_some ho
    exact h.ok.ok k o hk
  have H2 := Lib.hid h2
  have a0 : p.arr[0]? = some (.int .i64 p.cl) := rfl
  have a7 : p.arr[7]? = some (.int .i64 p.up) := rfl
  have b0 : o.arr[0]? = some (.int .i64 o.cl) := rfl
  have e0 : (o.cl != p.cl) = true := by simp [hne]
  obtain ⟨hc1, hc4⟩ := hc
  have i1 : ¬ p.cl < 1 := by omega
  have i2 : ¬ 4 < p.cl := by omega
  have HB1 := Lib.hid hb1
  clear h h1 hb1 h2 ho hne
  go_enter Try.func21, Try.ntmps21
  go_wp2_with fail
  refine H1.out.mono ?_
  rintro e w1 ⟨rfl, rfl⟩
  go_wp2_with fail
  refine H2.out.mono ?_
  rintro e w2 ⟨rfl, hb2⟩
  have HB2 := Lib.hid (HB1.out.trans (hb2.mono HB1.out.size))
  clear hb2
  go_wp2_with (first | (refine pw_put _ 6 (.tmp 27) rfl rfl rfl rfl rfl rfl o hok rfl rfl ?_))
  go_ret
  exact ⟨rfl, HB2.out.trans ((show Below w2.heap.size w2 _ by go_grown).mono HB2.out.size)⟩
theorem put_any (h : PA w B g mb M) (hB : B ≤ w.heap.size) {p : Pd} (hp : p.ok) : Calls Try.prog 21 #[.pointer (some ⟨g, 0, none⟩), .agg p.arr] w (DidT B g mb (putM M p) w) := by
  unfold putM
  by_cases hc : canPut M p
  · rw [if_pos hc]
    exact put_yes h hB hp hc
  · rw [if_neg hc]
    have stay : ∀ e w', StayB w e w' → DidT B g mb (M, false) w e w' := fun e w' ⟨h1, h2⟩ => ⟨h1, h.below h2, grown_of h2 _⟩
    by_cases hr : 1 ≤ p.cl ∧ p.cl ≤ 4
    · cases hb : byK M p.up with
      | none => exact absurd ⟨hr, fun o ho => by rw [hb] at ho; cases ho⟩ hc
      | some o =>
        have hne : o.cl ≠ p.cl := fun e => hc ⟨hr, fun o' ho' => by rw [hb] at ho'; cases ho'; exact e⟩
        exact (put_twice h hr hb hne).mono stay
    · exact (put_out h hr).mono stay
/-! ### Drop -/
set_option maxHeartbeats 8000000 in
theorem drop_any (h : PA w B g mb M) {c : Int} (hk : kok c) : Calls Try.prog 25 #[.pointer (some ⟨g, 0, none⟩), .int .i64 c] w (DidT B g mb (dropM M c) w) := by
  have H1 := Lib.hid (of_any h hk)
  have hpo := dropM_ok h.ok c
  have hvok := h.ok.vok c
  have hlim := h.ok.lim c
  have HGM := Lib.hid h.gm
  have HW := Lib.hid h
  unfold dropM at hpo ⊢
  clear h
  cases hm : M c with
  | none =>
    rw [hm] at H1
    simp only [Option.isSome_none, Bool.false_eq_true, if_false]
    go_enter Try.func25, Try.ntmps25
    go_wp2_with fail
    refine H1.out.mono ?_
    rintro e w1 ⟨rfl, hb⟩
    have HB := Lib.hid hb
    clear hb
    go_wp2_with (first | (refine pw_put _ 5 (.tmp 11) rfl rfl rfl rfl rfl rfl zP zP_ok rfl rfl ?_))
    go_ret
    have hb2 := HB.out.trans ((show Below w1.heap.size w1 (w1.alloc (.cells zP.arr 37)) by go_grown).mono HB.out.size)
    exact ⟨rfl, HW.out.below hb2, grown_of hb2 _⟩
  | some q =>
    rw [hm] at H1 hvok hpo
    simp only [Option.isSome_some, if_true] at hpo ⊢
    have hq := hlim q hm
    have HPO := Lib.hid hpo
    have HQ := Lib.hid hq
    have HOK : Hid q.ok := Lib.hid hvok
    clear hpo hq hvok hlim
    go_enter Try.func25, Try.ntmps25
    go_wp2_with fail
    refine H1.out.mono ?_
    rintro e w1 ⟨rfl, hb⟩
    have hb2 := hb.trans ((show Below w1.heap.size w1 (w1.alloc (.cells q.arr 37)) by go_grown).mono hb.size)
    have hp2 := HW.out.below hb2
    have c0 := hp2.cc
    obtain ⟨w8, hrun, hmap, hturn⟩ := hp2.map.del HQ.out 0
    have HF := Lib.hid (And.intro (hp2.turn hmap hturn.grown HPO.out) ((grown_of hb2 (some mb)).andThen' hturn.grown))
    clear hb hb2 hp2 hmap hturn
    go_wp2_with (first | (refine pw_put _ 5 (.tmp 11) rfl rfl rfl rfl rfl rfl q HOK.out rfl rfl ?_))
    go_ret
    exact ⟨rfl, HF.out.1, HF.out.2⟩
/-! ### Came, Later -/
theorem came_arr (p : Pd) (f x : Int) (b : Bool) : ((p.arr.setIfInBounds 6 (.bool b)).setIfInBounds 4 (.int .i64 f)).setIfInBounds 5 (.int .i64 x) = ({ p with ag := b, fr := f, xi := x } : Pd).arr := rfl
theorem later_arr (p : Pd) (d : Int) : p.arr.setIfInBounds 9 (.int .i64 d) = ({ p with du := d } : Pd).arr := rfl
set_option maxHeartbeats 8000000 in
theorem came_any (h : PA w B g mb M) {c : Int} (hk : kok c) (f x : Int) : Calls Try.prog 23 #[.pointer (some ⟨g, 0, none⟩), .int .i64 c, .int .i64 f, .int .i64 x] w (DidT B g mb (cameM M c f x) w) := by
  have H1 := Lib.hid (of_any h hk)
  have hpo := cameM_ok h.ok c f x
  have hlim := h.ok.lim c
  have hokk := h.ok.ok c
  have HGM := Lib.hid (And.intro h.gm h.map.lt)
  have HW := Lib.hid h
  unfold cameM at hpo ⊢
  clear h
  have HMK : Hid (1 = 1) := Lib.hid rfl
  cases hm : M c with
  | none =>
    rw [hm] at H1
    dsimp only
    go_enter Try.func23, Try.ntmps23
    go_wp2_with fail
    refine H1.out.mono ?_
    rintro e w1 ⟨rfl, hb⟩
    have HB := Lib.hid hb
    clear hb
    go_wp2_with (first | (refine pw_put _ 9 (.tmp 15) rfl rfl rfl rfl rfl rfl zP zP_ok rfl rfl ?_))
    go_ret
    have hb2 := HB.out.trans ((show Below w1.heap.size w1 (w1.alloc (.cells zP.arr 37)) by go_grown).mono HB.out.size)
    exact ⟨rfl, HW.out.below hb2, grown_of hb2 _⟩
  | some q =>
    rw [hm] at H1 hpo
    dsimp only at hpo ⊢
    have hq := hlim q hm
    have hok := hokk q hm
    have HPO := Lib.hid hpo
    have HQ := Lib.hid hq
    have HOK := Lib.hid hok
    have HOK2 := Lib.hid (again_ok hok f x)
    clear hpo hq hok hlim hokk
    have a6 : q.arr[6]? = some (.bool q.ag) := rfl
    have a4 : q.arr[4]? = some (.int .i64 q.fr) := rfl
    have a5 : q.arr[5]? = some (.int .i64 q.xi) := rfl
    have key : ∀ b, b = (q.ag || q.fr != f || q.xi != x) → ((q.arr.setIfInBounds 6 (.bool b)).setIfInBounds 4 (.int .i64 f)).setIfInBounds 5 (.int .i64 x) = (again q f x).arr := by
      intro b hb
      rw [came_arr, hb]
      rfl
    by_cases e1 : q.ag = true
    · have hA := Lib.hid (key true (by simp [e1]))
      rw [e1] at a6
      clear key e1
      go_enter Try.func23, Try.ntmps23
      go_wp2_with fail
      refine H1.out.mono ?_
      rintro e w1 ⟨rfl, hb⟩
      have HB := Lib.hid hb
      clear hb
      go_wp2_with (first | (refine pw_put _ 9 (.tmp 15) rfl rfl rfl rfl rfl rfl q HOK.out rfl rfl ?_))
      rw [hA.out]
      have hb7 : Below w.heap.size w (w1.alloc (.cells (again q f x).arr 37)).drew := HB.out.trans ((show Below w1.heap.size w1 (w1.alloc (.cells (again q f x).arr 37)).drew by go_grown).mono HB.out.size)
      have hp7 := HW.out.below hb7
      have hS7 : SB g mb w1.heap.size (again q f x) (w1.alloc (.cells (again q f x).arr 37)).drew := ⟨hp7.obj, heap_alloc_new w1 _⟩
      have HGB : Hid (w1.heap.size ≠ mb) := Lib.hid (by have := HGM.out.2; have := HB.out.size; omega)
      have HF := Lib.hid (And.intro hp7 hb7)
      clear hp7 hb7
      refine wp_region_flow2_lit [(0, false), (1, false), (2, false), (3, false), (4, false), (5, false), (6, true)] (SB g mb w1.heap.size (again q f x)) (by kernel_rfl) (by kernel_rfl) (by kernel_rfl) hS7 ?_
      repeat (first | (refine' flow2_pass (o := _) rfl _ _; (focus rfl); simp only [Act.put, List.setIfInBounds_toArray, List.set_cons_zero, List.set_cons_succ]) | (refine' flow2_take (v := _) (o := _) rfl _ _ _; rotate_left; (focus rfl); (focus (intro wS hS; have hE := Ext.refl wS; (have c0 := hS.cell); go_simp; try (with_reducible (first | exact ⟨rfl, hS, hE⟩ | rfl)); done)); simp only [Act.put, List.setIfInBounds_toArray, List.set_cons_zero, List.set_cons_succ]))
      (refine flow2_take (v := .agg (again q f x).arr) (o := _) rfl rfl (fun wS hS => gives_load rfl rfl HOK2.out (hS.2) ⟨hS, Ext.refl wS⟩) ?_; simp only [Act.put, List.setIfInBounds_toArray, List.set_cons_zero, List.set_cons_succ])
      (refine' flow2_turn (o := _) rfl _ _; (focus rfl); intro wT hE hS K hK; (obtain ⟨w8, hrun, hmap, hturn⟩ := (HF.out.1.below hE).map.put HQ.out (again q f x)); go_simp)
      refine hK _ _ (hS.turn HGM.out.1 HGB.out hturn.grown) ?_
      clear hK K
      have HX := Lib.hid (And.intro hE (And.intro hmap hturn))
      clear hE hS hmap hturn hrun
      simp only [Act.put, List.setIfInBounds_toArray, List.set_cons_zero, List.set_cons_succ]
      refine flow2_nil ?_
      intro w9 hE9 hS9
      have HX9 := Lib.hid hE9
      clear hE9 hS9
      go_wp2_with fail
      go_ret
      exact ⟨rfl, put_fin HF.out.1 HF.out.2 HX.out.1 HX.out.2.1 HX.out.2.2 HX9.out HPO.out⟩
    · have e1 : q.ag = false := by simpa using e1
      rw [e1] at a6
      by_cases e2 : q.fr = f
      · have hA := Lib.hid (key (q.xi != x) (by simp [e1, e2]))
        have g2 : (q.fr != f) = false := by simp [e2]
        clear key e1 e2
        go_enter Try.func23, Try.ntmps23
        go_wp2_with fail
        refine H1.out.mono ?_
        rintro e w1 ⟨rfl, hb⟩
        have HB := Lib.hid hb
        clear hb
        go_wp2_with (first | (refine pw_put _ 9 (.tmp 15) rfl rfl rfl rfl rfl rfl q HOK.out rfl rfl ?_))
        rw [hA.out]
        have hb7 : Below w.heap.size w (w1.alloc (.cells (again q f x).arr 37)).drew := HB.out.trans ((show Below w1.heap.size w1 (w1.alloc (.cells (again q f x).arr 37)).drew by go_grown).mono HB.out.size)
        have hp7 := HW.out.below hb7
        have hS7 : SB g mb w1.heap.size (again q f x) (w1.alloc (.cells (again q f x).arr 37)).drew := ⟨hp7.obj, heap_alloc_new w1 _⟩
        have HGB : Hid (w1.heap.size ≠ mb) := Lib.hid (by have := HGM.out.2; have := HB.out.size; omega)
        have HF := Lib.hid (And.intro hp7 hb7)
        clear hp7 hb7
        refine wp_region_flow2_lit [(0, false), (1, false), (2, false), (3, false), (4, false), (5, false), (6, true)] (SB g mb w1.heap.size (again q f x)) (by kernel_rfl) (by kernel_rfl) (by kernel_rfl) hS7 ?_
        repeat (first | (refine' flow2_pass (o := _) rfl _ _; (focus rfl); simp only [Act.put, List.setIfInBounds_toArray, List.set_cons_zero, List.set_cons_succ]) | (refine' flow2_take (v := _) (o := _) rfl _ _ _; rotate_left; (focus rfl); (focus (intro wS hS; have hE := Ext.refl wS; (have c0 := hS.cell); go_simp; try (with_reducible (first | exact ⟨rfl, hS, hE⟩ | rfl)); done)); simp only [Act.put, List.setIfInBounds_toArray, List.set_cons_zero, List.set_cons_succ]))
        (refine flow2_take (v := .agg (again q f x).arr) (o := _) rfl rfl (fun wS hS => gives_load rfl rfl HOK2.out (hS.2) ⟨hS, Ext.refl wS⟩) ?_; simp only [Act.put, List.setIfInBounds_toArray, List.set_cons_zero, List.set_cons_succ])
        (refine' flow2_turn (o := _) rfl _ _; (focus rfl); intro wT hE hS K hK; (obtain ⟨w8, hrun, hmap, hturn⟩ := (HF.out.1.below hE).map.put HQ.out (again q f x)); go_simp)
        refine hK _ _ (hS.turn HGM.out.1 HGB.out hturn.grown) ?_
        clear hK K
        have HX := Lib.hid (And.intro hE (And.intro hmap hturn))
        clear hE hS hmap hturn hrun
        simp only [Act.put, List.setIfInBounds_toArray, List.set_cons_zero, List.set_cons_succ]
        refine flow2_nil ?_
        intro w9 hE9 hS9
        have HX9 := Lib.hid hE9
        clear hE9 hS9
        go_wp2_with fail
        go_ret
        exact ⟨rfl, put_fin HF.out.1 HF.out.2 HX.out.1 HX.out.2.1 HX.out.2.2 HX9.out HPO.out⟩
      · have hA := Lib.hid (key true (by simp [e1, e2]))
        have g2 : (q.fr != f) = true := by simp [e2]
        clear key e1 e2
        go_enter Try.func23, Try.ntmps23
        go_wp2_with fail
        refine H1.out.mono ?_
        rintro e w1 ⟨rfl, hb⟩
        have HB := Lib.hid hb
        clear hb
        go_wp2_with (first | (refine pw_put _ 9 (.tmp 15) rfl rfl rfl rfl rfl rfl q HOK.out rfl rfl ?_))
        rw [hA.out]
        have hb7 : Below w.heap.size w (w1.alloc (.cells (again q f x).arr 37)).drew := HB.out.trans ((show Below w1.heap.size w1 (w1.alloc (.cells (again q f x).arr 37)).drew by go_grown).mono HB.out.size)
        have hp7 := HW.out.below hb7
        have hS7 : SB g mb w1.heap.size (again q f x) (w1.alloc (.cells (again q f x).arr 37)).drew := ⟨hp7.obj, heap_alloc_new w1 _⟩
        have HGB : Hid (w1.heap.size ≠ mb) := Lib.hid (by have := HGM.out.2; have := HB.out.size; omega)
        have HF := Lib.hid (And.intro hp7 hb7)
        clear hp7 hb7
        refine wp_region_flow2_lit [(0, false), (1, false), (2, false), (3, false), (4, false), (5, false), (6, true)] (SB g mb w1.heap.size (again q f x)) (by kernel_rfl) (by kernel_rfl) (by kernel_rfl) hS7 ?_
        repeat (first | (refine' flow2_pass (o := _) rfl _ _; (focus rfl); simp only [Act.put, List.setIfInBounds_toArray, List.set_cons_zero, List.set_cons_succ]) | (refine' flow2_take (v := _) (o := _) rfl _ _ _; rotate_left; (focus rfl); (focus (intro wS hS; have hE := Ext.refl wS; (have c0 := hS.cell); go_simp; try (with_reducible (first | exact ⟨rfl, hS, hE⟩ | rfl)); done)); simp only [Act.put, List.setIfInBounds_toArray, List.set_cons_zero, List.set_cons_succ]))
        (refine flow2_take (v := .agg (again q f x).arr) (o := _) rfl rfl (fun wS hS => gives_load rfl rfl HOK2.out (hS.2) ⟨hS, Ext.refl wS⟩) ?_; simp only [Act.put, List.setIfInBounds_toArray, List.set_cons_zero, List.set_cons_succ])
        (refine' flow2_turn (o := _) rfl _ _; (focus rfl); intro wT hE hS K hK; (obtain ⟨w8, hrun, hmap, hturn⟩ := (HF.out.1.below hE).map.put HQ.out (again q f x)); go_simp)
        refine hK _ _ (hS.turn HGM.out.1 HGB.out hturn.grown) ?_
        clear hK K
        have HX := Lib.hid (And.intro hE (And.intro hmap hturn))
        clear hE hS hmap hturn hrun
        simp only [Act.put, List.setIfInBounds_toArray, List.set_cons_zero, List.set_cons_succ]
        refine flow2_nil ?_
        intro w9 hE9 hS9
        have HX9 := Lib.hid hE9
        clear hE9 hS9
        go_wp2_with fail
        go_ret
        exact ⟨rfl, put_fin HF.out.1 HF.out.2 HX.out.1 HX.out.2.1 HX.out.2.2 HX9.out HPO.out⟩
set_option maxHeartbeats 8000000 in
theorem later_any (h : PA w B g mb M) {c : Int} (hk : kok c) (d : Int) (hd : kok d) : Calls Try.prog 26 #[.pointer (some ⟨g, 0, none⟩), .int .i64 c, .int .i64 d] w (DidT B g mb (laterM M c d) w) := by
  have H1 := Lib.hid (of_any h hk)
  have hpo := laterM_ok h.ok c d hd
  have hlim := h.ok.lim c
  have hokk := h.ok.ok c
  have HGM := Lib.hid (And.intro h.gm h.map.lt)
  have HW := Lib.hid h
  unfold laterM at hpo ⊢
  clear h
  cases hm : M c with
  | none =>
    rw [hm] at H1
    dsimp only
    go_enter Try.func26, Try.ntmps26
    go_wp2_with fail
    refine H1.out.mono ?_
    rintro e w1 ⟨rfl, hb⟩
    have HB := Lib.hid hb
    clear hb
    go_wp2_with (first | (refine pw_put _ 7 (.tmp 13) rfl rfl rfl rfl rfl rfl zP zP_ok rfl rfl ?_))
    go_ret
    have hb2 := HB.out.trans ((show Below w1.heap.size w1 (w1.alloc (.cells zP.arr 37)) by go_grown).mono HB.out.size)
    exact ⟨rfl, HW.out.below hb2, grown_of hb2 _⟩
  | some q =>
    rw [hm] at H1 hpo
    dsimp only at hpo ⊢
    have hq := hlim q hm
    have hok := hokk q hm
    have HPO := Lib.hid hpo
    have HQ := Lib.hid hq
    have HOK := Lib.hid hok
    have HOK2 := Lib.hid (due_ok hok d hd)
    clear hpo hq hok hlim hokk
    have hA := Lib.hid (later_arr q d)
    obtain ⟨q', hq'⟩ : ∃ q' : Pd, q' = { q with du := d } := ⟨_, rfl⟩
    rw [← hq'] at hA HOK2 HPO ⊢
    clear hq'
    go_enter Try.func26, Try.ntmps26
    go_wp2_with fail
    refine H1.out.mono ?_
    rintro e w1 ⟨rfl, hb⟩
    have HB := Lib.hid hb
    clear hb
    go_wp2_with (first | (refine pw_put _ 7 (.tmp 13) rfl rfl rfl rfl rfl rfl q HOK.out rfl rfl ?_))
    rw [hA.out]
    have hb7 : Below w.heap.size w (w1.alloc (.cells q'.arr 37)).drew := HB.out.trans ((show Below w1.heap.size w1 (w1.alloc (.cells q'.arr 37)).drew by go_grown).mono HB.out.size)
    have hp7 := HW.out.below hb7
    have hS7 : SB g mb w1.heap.size q' (w1.alloc (.cells q'.arr 37)).drew := ⟨hp7.obj, heap_alloc_new w1 _⟩
    have HGB : Hid (w1.heap.size ≠ mb) := Lib.hid (by have := HGM.out.2; have := HB.out.size; omega)
    have HF := Lib.hid (And.intro hp7 hb7)
    clear hp7 hb7
    refine wp_region_flow2_lit [(0, false), (1, false), (2, false), (3, false), (4, false), (5, false), (6, true)] (SB g mb w1.heap.size q') (by kernel_rfl) (by kernel_rfl) (by kernel_rfl) hS7 ?_
    repeat (first | (refine' flow2_pass (o := _) rfl _ _; (focus rfl); simp only [Act.put, List.setIfInBounds_toArray, List.set_cons_zero, List.set_cons_succ]) | (refine' flow2_take (v := _) (o := _) rfl _ _ _; rotate_left; (focus rfl); (focus (intro wS hS; have hE := Ext.refl wS; (have c0 := hS.cell); go_simp; try (with_reducible (first | exact ⟨rfl, hS, hE⟩ | rfl)); done)); simp only [Act.put, List.setIfInBounds_toArray, List.set_cons_zero, List.set_cons_succ]))
    (refine flow2_take (v := .agg q'.arr) (o := _) rfl rfl (fun wS hS => gives_load rfl rfl HOK2.out (hS.2) ⟨hS, Ext.refl wS⟩) ?_; simp only [Act.put, List.setIfInBounds_toArray, List.set_cons_zero, List.set_cons_succ])
    (refine' flow2_turn (o := _) rfl _ _; (focus rfl); intro wT hE hS K hK; (obtain ⟨w8, hrun, hmap, hturn⟩ := (HF.out.1.below hE).map.put HQ.out q'); go_simp)
    refine hK _ _ (hS.turn HGM.out.1 HGB.out hturn.grown) ?_
    clear hK K
    have HX := Lib.hid (And.intro hE (And.intro hmap hturn))
    clear hE hS hmap hturn hrun
    simp only [Act.put, List.setIfInBounds_toArray, List.set_cons_zero, List.set_cons_succ]
    refine flow2_nil ?_
    intro w9 hE9 hS9
    have HX9 := Lib.hid hE9
    clear hE9 hS9
    go_wp2_with fail
    go_ret
    exact ⟨rfl, put_fin HF.out.1 HF.out.2 HX.out.1 HX.out.2.1 HX.out.2.2 HX9.out HPO.out⟩
end
end Go.Proofs.Ytbhiddppohbjhaa
