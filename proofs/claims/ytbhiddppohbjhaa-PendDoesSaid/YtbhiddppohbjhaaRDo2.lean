/- posthouseref26.Table.Do: Came; every step. -/
import Derived.Test.YtbhiddppohbjhaaRDo
namespace Go.Proofs.Ytbhiddppohbjhaa
open Go Go.RowKit Go.Maps Go.WideShapes Go.ChangeMaps Go.WideMaps Go.MapKept
set_option maxRecDepth 100000
theorem again_yes (p : Pd) (f x : Int) (hne : ¬ (p.fr = f ∧ p.xi = x)) : ((p.arr.setIfInBounds 6 (.bool true)).setIfInBounds 4 (.int .i64 f)).setIfInBounds 5 (.int .i64 x) = (again p f x).arr := by
  have e : (p.ag || p.fr != f || p.xi != x) = true := by
    by_cases h1 : p.fr = f
    · have h2 : p.xi ≠ x := fun e => hne ⟨h1, e⟩
      simp [h1, h2]
    · simp [h1]
  rw [came_arr, ← e]
  rfl
theorem again_no (p : Pd) (f x : Int) (h1 : p.fr = f) (h2 : p.xi = x) : (p.arr.setIfInBounds 4 (.int .i64 f)).setIfInBounds 5 (.int .i64 x) = (again p f x).arr := by
  have e : (p.ag || p.fr != f || p.xi != x) = p.ag := by simp [h1, h2]
  have e2 : again p f x = { p with fr := f, xi := x } := by unfold again; rw [e]
  rw [e2]
  rfl
section
variable {M : Tb} {h : Tok M}
set_option maxHeartbeats 32000000 in
theorem rdo_came {s : St} (hs : s.ok) (h2 : s.k = 3) (n : Nat) (hn1 : 1 ≤ n) (hn4 : n ≤ 4) (hc : s.c = n) {p : Pd} (hm : M (n : Int) = some p) {r : Pd} (hr : r = again p s.n s.m) (h' : Tok (upd M (n : Int) (some r))) (w : World) : Calls Try.prog 9 #[.agg (tabA M h), .agg s.arr] w fun e w' => RTV (upd M (n : Int) (some r)) h' true w e w' := by
  have hof := fun w => rof_any (M := M) (h := h) s.c w
  rw [hc, hm] at hof
  have HOF := Lib.hid hof
  have HD := Lib.hid (d3_start (M := M) (h := h) s w)
  have HOK := Lib.hid (h.ok _ _ hm)
  have HOK2 := Lib.hid (h'.ok n r (upd_same _ _ _))
  have a0 : s.arr[0]? = some (.int .i64 s.k) := rfl
  have a1 : s.arr[1]? = some (.int .i64 s.c) := rfl
  have p4 : p.arr[4]? = some (.int .i64 p.fr) := rfl
  have p5 : p.arr[5]? = some (.int .i64 p.xi) := rfl
  rw [h2] at a0
  rw [hc] at a1
  have hn5 : n < 5 := by omega
  have HC := Lib.hid (And.intro h2 (And.intro hc hm))
  have HRR := Lib.hid hr
  clear hof h2 hc hs hm hr
  by_cases e1 : p.fr = s.n
  · by_cases e2 : p.xi = s.m
    · have hA := Lib.hid (again_no p s.n s.m e1 e2)
      rw [← HRR.out] at hA
      have g1 : (s.n != s.n) = false := by simp
      have g2 : (s.m != s.m) = false := by simp
      rw [e1] at p4
      rw [e2] at p5
      clear e1 e2
      go_enter Try.func9, Try.ntmps9
      go_wp2_with (first
        | (refine pw_alloc40 rfl rfl ?_)
        | (refine pw_load40 rfl (.tmp 2) rfl w.heap.size rfl (tabA M h) (tab_size M h) HD.out.t ?_))
      refine (HOF.out _).mono ?_
      rintro e w1 ⟨rfl, hb1⟩
      have hd0 := HD.out.below hb1
      have hlt1 : w.heap.size + 1 < w1.heap.size := heap_lt hd0.s
      have hb3 := hb1.trans ((show Below w1.heap.size w1 (w1.alloc (.cells r.arr 37)) by go_grown).mono hb1.size)
      have hd2 := HD.out.below hb3
      obtain ⟨c0, c1, c2, c3⟩ := hd0.cells
      rw [HC.out.1] at c0
      rw [HC.out.2.1] at c1
      have HB := Lib.hid hd2
      clear hb1 hb3 hd0 hd2
      go_wp2_with (first
        | (refine pw_put _ 6 (.tmp 22) rfl rfl rfl rfl rfl rfl p HOK.out rfl rfl ?_)
        | (refine pw_load rfl (.tmp 6) rfl w1.heap.size rfl r HOK2.out (by rw [hA.out]; exact heap_alloc_new _ _) ?_)
        | (refine pw_row rfl (.tmp 66) (.tmp 64) rfl w.heap.size (5 + n * 34) r HOK2.out (tabA M h) (by rw [tab_size]; omega) rfl rfl (by rw [hA.out]; exact HB.out.t) ?_; intro w2 hc2 hg2 hs2; rw [hA.out] at hg2; have HR := Lib.hid (turn_row (h' := h') hn1 hn4 HC.out.2.2 HOK2.out hc2); have HZ := Lib.hid ((hg2.block _ (heap_lt HB.out.z) (by simp)).trans HB.out.z); have HBL := Lib.hid (HB.out.bl.grown hg2 HB.out.bl.size (fun j hj => by cases hj; exact Nat.le_refl _)); clear hc2 hg2)
        | (refine pw_load40 rfl (.tmp 2) rfl w.heap.size rfl (tabA (upd M (n : Int) (some r)) h') (tab_size _ _) HR.out ?_)
        | (refine pw_store40 rfl (.tmp 4) (.tmp 77) rfl (w.heap.size + 2) (tabA (upd M (n : Int) (some r)) h') (tab_size _ _) (tab_all _ _) zT zT_size rfl rfl HZ.out ?_; intro w4 hb4 hg4 hs4))
      (try simp only [Exit.inBlock, Exit.then])
      refine bodyPost_ret (res_tab Try.results9 _ _ (w.heap.size + 2) (tabA (upd M (n : Int) (some r)) h') (tab_size _ _) (.bool true) rfl rfl hb4) rfl ?_
      exact ⟨rfl, HBL.out.grown hg4 HBL.out.size (fun j hj => by cases hj; omega)⟩
    · have hA := Lib.hid (again_yes p s.n s.m (fun e => e2 e.2))
      rw [← HRR.out] at hA
      have g1 : (s.n != s.n) = false := by simp
      have g2 : (p.xi != s.m) = true := by simp [e2]
      rw [e1] at p4
      clear e1 e2
      go_enter Try.func9, Try.ntmps9
      go_wp2_with (first
        | (refine pw_alloc40 rfl rfl ?_)
        | (refine pw_load40 rfl (.tmp 2) rfl w.heap.size rfl (tabA M h) (tab_size M h) HD.out.t ?_))
      refine (HOF.out _).mono ?_
      rintro e w1 ⟨rfl, hb1⟩
      have hd0 := HD.out.below hb1
      have hlt1 : w.heap.size + 1 < w1.heap.size := heap_lt hd0.s
      have hb3 := hb1.trans ((show Below w1.heap.size w1 (w1.alloc (.cells r.arr 37)) by go_grown).mono hb1.size)
      have hd2 := HD.out.below hb3
      obtain ⟨c0, c1, c2, c3⟩ := hd0.cells
      rw [HC.out.1] at c0
      rw [HC.out.2.1] at c1
      have HB := Lib.hid hd2
      clear hb1 hb3 hd0 hd2
      go_wp2_with (first
        | (refine pw_put _ 6 (.tmp 22) rfl rfl rfl rfl rfl rfl p HOK.out rfl rfl ?_)
        | (refine pw_load rfl (.tmp 6) rfl w1.heap.size rfl r HOK2.out (by rw [hA.out]; exact heap_alloc_new _ _) ?_)
        | (refine pw_row rfl (.tmp 66) (.tmp 64) rfl w.heap.size (5 + n * 34) r HOK2.out (tabA M h) (by rw [tab_size]; omega) rfl rfl (by rw [hA.out]; exact HB.out.t) ?_; intro w2 hc2 hg2 hs2; rw [hA.out] at hg2; have HR := Lib.hid (turn_row (h' := h') hn1 hn4 HC.out.2.2 HOK2.out hc2); have HZ := Lib.hid ((hg2.block _ (heap_lt HB.out.z) (by simp)).trans HB.out.z); have HBL := Lib.hid (HB.out.bl.grown hg2 HB.out.bl.size (fun j hj => by cases hj; exact Nat.le_refl _)); clear hc2 hg2)
        | (refine pw_load40 rfl (.tmp 2) rfl w.heap.size rfl (tabA (upd M (n : Int) (some r)) h') (tab_size _ _) HR.out ?_)
        | (refine pw_store40 rfl (.tmp 4) (.tmp 77) rfl (w.heap.size + 2) (tabA (upd M (n : Int) (some r)) h') (tab_size _ _) (tab_all _ _) zT zT_size rfl rfl HZ.out ?_; intro w4 hb4 hg4 hs4))
      (try simp only [Exit.inBlock, Exit.then])
      refine bodyPost_ret (res_tab Try.results9 _ _ (w.heap.size + 2) (tabA (upd M (n : Int) (some r)) h') (tab_size _ _) (.bool true) rfl rfl hb4) rfl ?_
      exact ⟨rfl, HBL.out.grown hg4 HBL.out.size (fun j hj => by cases hj; omega)⟩
  · have hA := Lib.hid (again_yes p s.n s.m (fun e => e1 e.1))
    rw [← HRR.out] at hA
    have g1 : (p.fr != s.n) = true := by simp [e1]
    clear e1
    go_enter Try.func9, Try.ntmps9
    go_wp2_with (first
      | (refine pw_alloc40 rfl rfl ?_)
      | (refine pw_load40 rfl (.tmp 2) rfl w.heap.size rfl (tabA M h) (tab_size M h) HD.out.t ?_))
    refine (HOF.out _).mono ?_
    rintro e w1 ⟨rfl, hb1⟩
    have hd0 := HD.out.below hb1
    have hlt1 : w.heap.size + 1 < w1.heap.size := heap_lt hd0.s
    have hb3 := hb1.trans ((show Below w1.heap.size w1 (w1.alloc (.cells r.arr 37)) by go_grown).mono hb1.size)
    have hd2 := HD.out.below hb3
    obtain ⟨c0, c1, c2, c3⟩ := hd0.cells
    rw [HC.out.1] at c0
    rw [HC.out.2.1] at c1
    have HB := Lib.hid hd2
    clear hb1 hb3 hd0 hd2
    go_wp2_with (first
      | (refine pw_put _ 6 (.tmp 22) rfl rfl rfl rfl rfl rfl p HOK.out rfl rfl ?_)
      | (refine pw_load rfl (.tmp 6) rfl w1.heap.size rfl r HOK2.out (by rw [hA.out]; exact heap_alloc_new _ _) ?_)
      | (refine pw_row rfl (.tmp 66) (.tmp 64) rfl w.heap.size (5 + n * 34) r HOK2.out (tabA M h) (by rw [tab_size]; omega) rfl rfl (by rw [hA.out]; exact HB.out.t) ?_; intro w2 hc2 hg2 hs2; rw [hA.out] at hg2; have HR := Lib.hid (turn_row (h' := h') hn1 hn4 HC.out.2.2 HOK2.out hc2); have HZ := Lib.hid ((hg2.block _ (heap_lt HB.out.z) (by simp)).trans HB.out.z); have HBL := Lib.hid (HB.out.bl.grown hg2 HB.out.bl.size (fun j hj => by cases hj; exact Nat.le_refl _)); clear hc2 hg2)
      | (refine pw_load40 rfl (.tmp 2) rfl w.heap.size rfl (tabA (upd M (n : Int) (some r)) h') (tab_size _ _) HR.out ?_)
      | (refine pw_store40 rfl (.tmp 4) (.tmp 77) rfl (w.heap.size + 2) (tabA (upd M (n : Int) (some r)) h') (tab_size _ _) (tab_all _ _) zT zT_size rfl rfl HZ.out ?_; intro w4 hb4 hg4 hs4))
    (try simp only [Exit.inBlock, Exit.then])
    refine bodyPost_ret (res_tab Try.results9 _ _ (w.heap.size + 2) (tabA (upd M (n : Int) (some r)) h') (tab_size _ _) (.bool true) rfl rfl hb4) rfl ?_
    exact ⟨rfl, HBL.out.grown hg4 HBL.out.size (fun j hj => by cases hj; omega)⟩
theorem rdo_any {s : St} (hs : s.ok) (w : World) : Calls Try.prog 9 #[.agg (tabA M h), .agg s.arr] w fun e w' => RTV (doM M s).1 (doM_ok h hs) (doM M s).2 w e w' := by
  have key : ∀ (R : Tb) (b : Bool) (hr : Tok R), doM M s = (R, b) → Calls Try.prog 9 #[.agg (tabA M h), .agg s.arr] w (RTV R hr b w) → Calls Try.prog 9 #[.agg (tabA M h), .agg s.arr] w fun e w' => RTV (doM M s).1 (doM_ok h hs) (doM M s).2 w e w' := by
    intro R b hr he hx
    refine hx.mono ?_
    intro e w' hy
    have e1 : (doM M s).1 = R := by rw [he]
    have e2 : (doM M s).2 = b := by rw [he]
    subst e1
    subst e2
    exact hy
  by_cases h1 : s.k = 1
  · refine key (putM M s.p).1 (putM M s.p).2 (putM_ok h hs.p) (by unfold doM; rw [if_pos h1]) ?_
    exact rdo_put hs h1 (putM_ok h hs.p) (fun w => rput_any hs.p w) w
  · cases hm : M s.c with
    | none =>
      refine key M false h ?_ (rdo_none hs h1 hm w)
      unfold doM
      rw [if_neg h1]
      unfold dropM cameM laterM
      rw [hm]
      simp
    | some p =>
      have hl := h.lim _ _ hm
      obtain ⟨n, hn⟩ : ∃ n : Nat, s.c = n := ⟨s.c.toNat, by omega⟩
      have hm' : M (n : Int) = some p := by rw [← hn]; exact hm
      by_cases h2 : s.k = 2
      · refine key _ true (del_ok h (n : Int)) ?_ (rdo_drop hs h2 n (by omega) (by omega) hn hm' w)
        unfold doM
        rw [if_neg h1, if_pos h2]
        unfold dropM
        rw [hm, hn]
        rfl
      · by_cases h3 : s.k = 3
        · have ht := turn_ok h hm' (again_ok (h.ok _ _ hm') s.n s.m) rfl rfl
          refine key _ true ht ?_ (rdo_came hs h3 n (by omega) (by omega) hn hm' rfl ht w)
          unfold doM
          rw [if_neg h1, if_neg h2, if_pos h3]
          unfold cameM
          rw [hm, hn]
        · by_cases h4 : s.k = 4
          · have ht := turn_ok h hm' (due_ok (h.ok _ _ hm') s.n hs.n) rfl rfl
            refine key _ true ht ?_ (rdo_later hs h4 n (by omega) (by omega) hn hm' rfl ht w)
            unfold doM
            rw [if_neg h1, if_neg h2, if_neg h3, if_pos h4]
            unfold laterM
            rw [hm, hn]
          · refine key M false h ?_ (rdo_else hs h1 h2 h3 h4 hm w)
            unfold doM
            rw [if_neg h1, if_neg h2, if_neg h3, if_neg h4]
end
end Go.Proofs.Ytbhiddppohbjhaa
