/- posthouseref26.Table.Put. -/
import Derived.Test.YtbhiddppohbjhaaRPut
namespace Go.Proofs.Ytbhiddppohbjhaa
open Go Go.RowKit Go.Maps Go.WideShapes Go.ChangeMaps Go.WideMaps Go.MapKept
set_option maxRecDepth 100000
def RTV (M : Tb) (h : Tok M) (b : Bool) (w : World) (e : Ending) (w' : World) : Prop := e = .returned (.tuple #[.agg (tabA M h), .bool b]) ∧ Below w.heap.size w w'
section
variable {M : Tb} {h : Tok M}
/-- behind the three boxes -/
structure P3 (M : Tb) (h : Tok M) (p : Pd) (w wr : World) : Prop where
  t : wr.heap[w.heap.size]? = some (.cells (tabA M h) 40)
  p : wr.heap[w.heap.size + 1]? = some (.cells p.arr 37)
  z : wr.heap[w.heap.size + 2]? = some (.cells zT 40)
  bl : Below w.heap.size w wr
theorem p3_start (p : Pd) (w : World) : P3 M h p w (((w.alloc (.cells (tabA M h) 40)).alloc (.cells p.arr 37)).alloc (.cells zT 40)) :=
  ⟨heap_old_at (heap_old_at (heap_alloc_new w _)), heap_old_at (heap_new_at _ _ (alloc_size _ _)), heap_new_at _ _ (by rw [alloc_size, alloc_size]), by go_grown⟩
theorem P3.drew {p : Pd} {w wr : World} (x : P3 M h p w wr) : P3 M h p w wr.drew := ⟨x.t, x.p, x.z, x.bl.drew⟩
theorem zT_size : zT.size = 175 := tab_size _ _
set_option maxHeartbeats 8000000 in
theorem rput_out {p : Pd} (hp : p.ok) (hc : ¬ (1 ≤ p.cl ∧ p.cl ≤ 4)) (w : World) : Calls Try.prog 24 #[.agg (tabA M h), .agg p.arr] w (RTV M h false w) := by
  have H1 := Lib.hid (fun w => client_no p.cl w hc)
  have a0 : p.arr[0]? = some (.int .i64 p.cl) := rfl
  have HP := Lib.hid (p3_start (M := M) (h := h) p w)
  clear hc
  go_enter Try.func24, Try.ntmps24
  go_wp2_with (first | (refine pw_alloc40 rfl rfl ?_))
  refine (H1.out _).mono ?_
  rintro e w1 ⟨rfl, rfl⟩
  go_wp2_with (first
    | (refine pw_load40 rfl (.tmp 2) rfl w.heap.size rfl (tabA M h) (tab_size M h) HP.out.t ?_)
    | (refine pw_store40 rfl (.tmp 4) (.tmp 14) rfl (w.heap.size + 2) (tabA M h) (tab_size M h) (tab_all M h) zT zT_size rfl rfl HP.out.z ?_; intro w2 hb2 hg2 hs2))
  (try simp only [Exit.inBlock, Exit.then])
  refine bodyPost_ret (res_tab Try.results24 _ _ (w.heap.size + 2) (tabA M h) (tab_size M h) _ rfl rfl hb2) rfl ?_
  exact ⟨rfl, HP.out.bl.grown hg2 HP.out.bl.size (fun j hj => by cases hj; omega)⟩
/-- as far as Put has looked -/
def noTo (M : Tb) (p : Pd) (k : Nat) : Prop := ∀ j : Nat, 1 ≤ j → j < k → (j : Int) ≠ p.cl → upIs (M j) p.up = false
theorem no_next {p : Pd} {k : Nat} (hn : noTo M p k) (hk : (k : Int) ≠ p.cl → upIs (M k) p.up = false) : noTo M p (k + 1) := fun j h1 h2 h3 => by
  rcases Nat.lt_or_ge j k with h4 | h4
  · exact hn j h1 h4 h3
  · obtain rfl : j = k := by omega
    exact hk h3
theorem put_row {w2 : World} {q n : Nat} {p : Pd} {h' : Tok (upd M (n : Int) (some p))} (h1 : 1 ≤ n) (h4 : n ≤ 4) (hp : p.ok) (hc : w2.heap[q]? = some (.cells (overl ((tabA M h).setIfInBounds n (.bool true)) (5 + n * 34) p.cells) 40)) : w2.heap[q]? = some (.cells (tabA (upd M (n : Int) (some p)) h') 40) := by
  rw [← tab_upd (h := h) h1 h4 h' (show (vOf (some p)).ok from hp)]
  exact hc
set_option maxHeartbeats 16000000 in
theorem rput_in {p : Pd} (hp : p.ok) (n : Nat) (hn1 : 1 ≤ n) (hn4 : n ≤ 4) (hcl : p.cl = n) (w : World) :
    Calls Try.prog 24 #[.agg (tabA M h), .agg p.arr] w fun e w' => (noTo M p 5 ∧ ∃ h' : Tok (upd M (n : Int) (some p)), RTV (upd M (n : Int) (some p)) h' true w e w') ∨ ((∃ k : Nat, 1 ≤ k ∧ k ≤ 4 ∧ (k : Int) ≠ p.cl ∧ upIs (M k) p.up = true) ∧ RTV M h false w e w') := by
  have H1 := Lib.hid (fun w => client_yes (n : Int) w (by omega))
  have a0 : p.arr[0]? = some (.int .i64 (n : Int)) := by rw [← hcl]; rfl
  have a7 : p.arr[7]? = some (.int .i64 p.up) := rfl
  have HP0 := Lib.hid (p3_start (M := M) (h := h) p w)
  have hn5 : n < 5 := by omega
  have HN := Lib.hid hcl
  have HOK := Lib.hid hp
  clear hcl hp
  go_enter Try.func24, Try.ntmps24
  go_wp2_with (first | (refine pw_alloc40 rfl rfl ?_))
  refine (H1.out _).mono ?_
  rintro e w1 ⟨rfl, rfl⟩
  go_wp2_with fail
  go_loopw [7] (fun i wr => ∃ k : Nat, 1 ≤ k ∧ k ≤ 5 ∧ i = .int .i64 k ∧ noTo M p k ∧ P3 M h p w wr) (fun i _ => 5 - (intOf i).toNat)
  case atStart => exact ⟨1, by omega, by omega, rfl, fun j h1 h2 => by omega, HP0.out⟩
  case round =>
    obtain ⟨k, hk1, hk5, rfl, hto, hp3⟩ := hrel
    have HT := Lib.hid hto
    have HP := Lib.hid hp3
    clear hto hp3
    by_cases hlt : k ≤ 4
    · have his := tb_is HP.out.t hk1 hlt
      have hup := tb_up HP.out.t hk1 hlt
      have p7 : wr.cell? ⟨w.heap.size + 1, 7, none⟩ = some (.int .i64 p.up) := by rw [row_cell HP.out.p]; rfl
      have hk' : k < 5 := by omega
      by_cases hkn : k = n
      · subst hkn
        have e0 : ((k : Int) != (k : Int)) = false := by simp
        go_wp2_with fail
        go_region
        go_wp2_with fail
        go_roundw
        case rel => exact ⟨k + 1, by omega, by omega, by go_num, no_next HT.out (fun e => absurd HN.out.symm e), HP.out.drew⟩
        case measure => simp [intOf]; omega
      · have e0 : ((k : Int) != (n : Int)) = true := by simp; omega
        have HKN := Lib.hid (show (k : Int) ≠ p.cl by rw [HN.out]; omega)
        clear hkn
        cases hm : M k with
        | none =>
          rw [hm] at his
          have HM := Lib.hid hm
          clear hm hup
          go_wp2_with fail
          go_region
          go_wp2_with fail
          go_roundw
          case rel => exact ⟨k + 1, by omega, by omega, by go_num, no_next HT.out (fun _ => by rw [HM.out]; rfl), HP.out.drew⟩
          case measure => simp [intOf]; omega
        | some q =>
          have hq : vOf (M k) = q := by rw [hm]; rfl
          rw [hm] at his
          rw [hq] at hup
          have HM := Lib.hid hm
          clear hm hq
          by_cases hu : q.up = p.up
          · have hu1 : (q.up == p.up) = true := by simp [hu]
            have HU := Lib.hid hu
            clear hu
            go_wp2_with fail
            go_region
            have HD := Lib.hid HP.out.drew
            go_wp2_with (first
              | (refine pw_load40 rfl (.tmp 2) rfl w.heap.size rfl (tabA M h) (tab_size M h) HD.out.t ?_)
              | (refine pw_store40 rfl (.tmp 4) (.tmp 38) rfl (w.heap.size + 2) (tabA M h) (tab_size M h) (tab_all M h) zT zT_size rfl rfl HD.out.z ?_; intro w2 hb2 hg2 hs2))
            (try simp only [Exit.inBlock, Exit.then])
            refine bodyPost_ret (res_tab Try.results24 _ _ (w.heap.size + 2) (tabA M h) (tab_size M h) (.bool false) rfl rfl hb2) rfl ?_
            exact .inr ⟨⟨k, hk1, hlt, HKN.out, by rw [HM.out]; simp [upIs, HU.out]⟩, rfl, HD.out.bl.grown hg2 HD.out.bl.size (fun j hj => by cases hj; omega)⟩
          · have hu1 : (q.up == p.up) = false := by simp [hu]
            have HU := Lib.hid hu
            clear hu
            go_wp2_with fail
            go_region
            go_wp2_with fail
            go_roundw
            case rel => exact ⟨k + 1, by omega, by omega, by go_num, no_next HT.out (fun _ => by rw [HM.out]; simp [upIs, HU.out]), HP.out.drew⟩
            case measure => simp [intOf]; omega
    · have hall : noTo M p 5 := by rw [show 5 = k by omega]; exact HT.out
      have HA := Lib.hid hall
      have his := tb_is HP.out.t hn1 hn4
      have hfr : wr.frozen? ⟨w.heap.size, n, none⟩ = false := row_froz HP.out.t n
      have hb1 := setCell_heap HP.out.t n (.bool true)
      have hb2 : (wr.setCell ⟨w.heap.size, n, none⟩ (.bool true)).heap[w.heap.size + 1]? = some (.cells p.arr 37) := (Below.heap_setCell _ _ _ _ (by simp)).trans HP.out.p
      have hb3 : (wr.setCell ⟨w.heap.size, n, none⟩ (.bool true)).heap[w.heap.size + 2]? = some (.cells zT 40) := (Below.heap_setCell _ _ _ _ (by simp)).trans HP.out.z
      have hbs : Below w.heap.size w (wr.setCell ⟨w.heap.size, n, none⟩ (.bool true)) := HP.out.bl.setCell (by simp) _
      have HB := Lib.hid (And.intro hb1 (And.intro hb2 (And.intro hb3 hbs)))
      clear hall hb1 hb2 hb3 hbs
      have hcan : canPut M p := (can_iff h p).2 ⟨by rw [HN.out]; omega, fun k h1 h2 h3 => HA.out k h1 (by omega) h3⟩
      have hpo := putM_ok h HOK.out
      unfold putM at hpo
      rw [if_pos hcan] at hpo
      have hpo : Tok (upd M (n : Int) (some p)) := by rw [← HN.out]; exact hpo
      have HPO := Lib.hid hpo
      clear hcan hpo
      go_wp2_with (first
        | (refine pw_load rfl (.tmp 3) rfl (w.heap.size + 1) rfl p HOK.out HB.out.2.1 ?_)
        | (refine pw_row rfl (.tmp 45) (.tmp 43) rfl w.heap.size (5 + n * 34) p HOK.out _ (by rw [Array.size_setIfInBounds, tab_size]; omega) rfl rfl HB.out.1 ?_; intro w2 hc2 hg2 hs2; have HR := Lib.hid (put_row (h' := HPO.out) hn1 hn4 HOK.out hc2); have HZ := Lib.hid ((hg2.block _ (heap_lt HB.out.2.2.1) (by simp)).trans HB.out.2.2.1); have HBL := Lib.hid (HB.out.2.2.2.grown hg2 HB.out.2.2.2.size (fun j hj => by cases hj; exact Nat.le_refl _)); clear hc2 hg2)
        | (refine pw_load40 rfl (.tmp 2) rfl w.heap.size rfl (tabA (upd M (n : Int) (some p)) HPO.out) (tab_size _ _) HR.out ?_)
        | (refine pw_store40 rfl (.tmp 4) (.tmp 46) rfl (w.heap.size + 2) (tabA (upd M (n : Int) (some p)) HPO.out) (tab_size _ _) (tab_all _ _) zT zT_size rfl rfl HZ.out ?_; intro w4 hb4 hg4 hs4))
      (try simp only [Exit.inBlock, Exit.then])
      refine bodyPost_ret (res_tab Try.results24 _ _ (w.heap.size + 2) (tabA (upd M (n : Int) (some p)) HPO.out) (tab_size _ _) (.bool true) rfl rfl hb4) rfl ?_
      exact .inl ⟨HA.out, HPO.out, rfl, HBL.out.grown hg4 HBL.out.size (fun j hj => by cases hj; omega)⟩
theorem rput_any {p : Pd} (hp : p.ok) (w : World) : Calls Try.prog 24 #[.agg (tabA M h), .agg p.arr] w fun e w' => RTV (putM M p).1 (putM_ok h hp) (putM M p).2 w e w' := by
  have key : ∀ (r : Tb × Bool) (hr : Tok r.1), putM M p = r → ∀ e w', RTV r.1 hr r.2 w e w' → RTV (putM M p).1 (putM_ok h hp) (putM M p).2 w e w' := by
    rintro r hr rfl e w' hx
    exact hx
  by_cases hc : 1 ≤ p.cl ∧ p.cl ≤ 4
  · obtain ⟨n, hn⟩ : ∃ n : Nat, p.cl = n := ⟨p.cl.toNat, by omega⟩
    refine (rput_in (h := h) hp n (by omega) (by omega) hn w).mono ?_
    rintro e w' (⟨hno, h', hx⟩ | ⟨⟨k, h1, h4, hne, hu⟩, hx⟩)
    · refine key (upd M (n : Int) (some p), true) h' ?_ e w' hx
      unfold putM
      rw [if_pos ((can_iff h p).2 ⟨hc, fun k h1 h2 h3 => hno k h1 (by omega) h3⟩), hn]
    · refine key (M, false) h ?_ e w' hx
      unfold putM
      rw [if_neg fun hx => by
        have := ((can_iff h p).1 hx).2 k h1 h4 hne
        rw [this] at hu; cases hu]
  · refine (rput_out (h := h) hp hc w).mono ?_
    intro e w' hx
    refine key (M, false) h ?_ e w' hx
    unfold putM
    rw [if_neg fun hx => hc hx.1]
end
end Go.Proofs.Ytbhiddppohbjhaa
