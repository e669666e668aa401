/- SlotsDo: the walk's main way. -/
import Derived.Test.YteecedlgjmkkkaaDo
import Derived.Test.YteecedlgjmkkkaaFlow
namespace Go.Proofs.Yteecedlgjmkkkaa
open Go Go.RowKit

theorem state_bel (g r : Nat) (i : Int) (l : List Nat) (w : World) (hat : At w g r l) (h3 : ∀ x ∈ l, x < 3) (v : Int) (hv : stateOf l i = v) :
    Calls Try.prog 15 #[.pointer (some ⟨g, 0, none⟩), .int .i64 i] w fun e w' => e = .returned (.int .i64 v) ∧ Below w.heap.size w w' :=
  (state_any g r i l w hat h3).mono fun _ _ ⟨h1, h2⟩ => ⟨by rw [h1, hv], h2 ▸ Below.refl _ _⟩

/-- what stands from round to round of the second loop -/
structure Inv (W : World) (B N g r : Nat) (l : List Nat) (gm : Nat) (wr : World) : Prop where
  bl : Below W.heap.size W wr
  at_ : At wr g r l
  row : Row wr gm (up l)
  far : B ≤ gm
  len : l.length = N
  low : ∀ x ∈ l, x < 3
structure Base (W : World) (B g r : Nat) : Prop where
  w : W.heap.size ≤ B
  g1 : g < B
  r1 : r < B
  g0 : W.heap.size ≤ g
  r0 : W.heap.size ≤ r
theorem Inv.did {W : World} {B N g r : Nat} {l l' : List Nat} {gm : Nat} {wr w' : World} (hB : Base W B g r) (h : Inv W B N g r l gm wr) (ho : Over wr.heap.size g r wr w') (ha : At w' g r l') :
    Below W.heap.size W w' ∧ Row w' gm (up l) ∧ At w' g r l' := by
  have := hB.w; have := hB.g1; have := hB.r1; have := h.far
  exact ⟨h.bl.trans (ho.below h.bl.size hB.g0 hB.r0), h.row.of (ho.block gm h.row.lt (by omega) (by omega)), ha⟩

set_option maxRecDepth 100000 in
set_option maxHeartbeats 4000000 in
theorem do_main (N : Nat) (other : Int) (A : Option Addr) (L : List Stp) (cap : Nat) (w : World) (hs : StepsAt w A L) (h1 : 1 ≤ N) (h2 : N ≤ 60) (hm : L.length ≤ 100) :
    Calls Try.prog 4 #[.int .i64 N, .slice A L.length cap, .int .i64 other] w fun e w' => e = .returned (.bool true) ∧ Below w.heap.size w w' := by
  obtain ⟨i0, hi, hz0, hz1, hz2⟩ := info_parts info3
  have HK := Lib.hid (fun w' => known_any w')
  have HS := Lib.hid hs
  have HN := Lib.hid (new_any N w h1 (by omega))
  clear hs
  go_enter Try.func4, Try.ntmps4
  go_wp2_with fail
  refine HN.out.mono ?_
  rintro e w1 ⟨g, r, rfl, hg, hr, hb, hat⟩
  have HB1 := Lib.hid (And.intro hb (And.intro hat (And.intro hg hr)))
  have HBB := Lib.hid (Base.mk (W := w) (B := w1.heap.size) hb.size (some_lt hat.obj) (some_lt hat.row) hg hr)
  clear hb hat hg hr
  go_wp2_with fail
  go_loopw [9, 10] (fun m i wr => ∃ k : Nat, k ≤ N ∧ i = .int .i64 k ∧ wr.ownsRow w1.heap.size 3 1 m k (numC (List.replicate k 1)) ∧ Below w1.heap.size w1 wr) (fun _ i _ => N - (intOf i).toNat)
  case atStart => exact ⟨0, by omega, rfl, World.ownsRow_nil _ _ _ _, Below.refl _ _⟩
  case round =>
    obtain ⟨k, hk, rfl, hown, hbl⟩ := hrel
    by_cases hlt : k < N
    · have HO := Lib.hid (And.intro hown hbl)
      have hsz := hbl.size
      clear hown hbl
      go_wp2_with (at_builtin; refine wpList_append_own _ rfl (.tmp 58) (.tmp 59) 22 rfl w1.heap.size 3 i0 (.int .i64 0) 1 8 Try.underlying22 hi hz0 hz1 hz2 rfl (by decide) _ _ _ rfl (HO.out.1.alloc _) ⟨wr.heap.size, 0, none⟩ 1 1 [.int .i64 1] rfl rfl (by intro j u hj; match j, hj with | 0, hj => simp at hj; subst hj; simp [Addr.add]) (by intro u hu; simp at hu; subst hu; rfl) (by unfold maxLen; omega) (by omega) (by simp; omega) ?_)
      intro v' w2 hown' hgrow _
      have hR : w2.ownsRow w1.heap.size 3 1 v' (k + 1) (numC (List.replicate (k + 1) 1)) ∧ Below w1.heap.size w1 w2 := by
        refine ⟨?_, ?_⟩
        · rw [List.replicate_succ']
          unfold numC at hown' ⊢
          rw [List.map_append]
          exact hown'
        · exact Below.grown (HO.out.2.alloc hsz _) hgrow (by simp; omega) (own_ge HO.out.1)
      have HR := Lib.hid hR
      clear hown' hgrow hR
      go_wp2_with fail
      go_roundw
      case rel => exact ⟨k + 1, by omega, by go_num, HR.out.1, HR.out.2⟩
      case measure => simp [intOf]; omega
    · obtain rfl : k = N := by omega
      obtain ⟨gm, cm, rfl, hge, hrow⟩ := own_row (by simp) (by omega) hown
      have hinv : Inv w w1.heap.size k g r (List.replicate k 0) gm wr :=
        ⟨HB1.out.1.trans (hbl.mono HB1.out.1.size), HB1.out.2.1.below hbl, by simpa [up] using hrow, hge, by simp, by intro x hx; rw [List.eq_of_mem_replicate hx]; omega⟩
      have HI := Lib.hid hinv
      clear hown hbl hrow hge hinv
      go_wp2_with fail
      go_loopw [9, 11] (fun m i wr => ∃ (j : Nat) (l : List Nat) (gm cm : Nat), j ≤ L.length ∧ i = .int .i64 j ∧ m = .slice (some ⟨gm, 0, none⟩) k cm ∧ Inv w w1.heap.size k g r l gm wr) (fun _ i _ => L.length - (intOf i).toNat)
      case atStart => exact ⟨0, _, gm, cm, by omega, rfl, rfl, HI.out⟩
      case round =>
        clear HI
        obtain ⟨j, l, gm, cm, hj, rfl, rfl, hinv⟩ := hrel
        have HI := Lib.hid hinv
        clear hinv
        by_cases hlt : j < L.length
        · obtain ⟨b, off, rfl, hbw, c0, c1⟩ := HS.out.at_ hlt
          obtain ⟨l', a, p, hst⟩ : ∃ l' a p, step l L[j].kind L[j].i = (l', a, p) := ⟨_, _, _, rfl⟩
          have hdo : Calls Try.prog 11 #[.pointer (some ⟨g, 0, none⟩), .agg #[.int .i64 L[j].kind, .int .i64 L[j].i]] wr fun e w' => e = .returned (.tuple #[.int .i64 a, .bool p]) ∧ Over wr.heap.size g r wr w' ∧ At w' g r l' := by
            have := do_any g r l L[j].kind L[j].i wr HI.out.at_
            unfold StepV at this
            rw [hst] at this
            exact this
          have hrf : ∀ w', Row w' gm (up l) → Calls Try.prog 12 #[.slice (some ⟨gm, 0, none⟩) k cm, .agg #[.int .i64 L[j].kind, .int .i64 L[j].i]] w' fun e w'' => ∃ g' cap', e = .returned (.tuple #[.slice (some ⟨g', 0, none⟩) k cap', .int .i64 a, .bool p]) ∧ w'.heap.size ≤ g' ∧ Below w'.heap.size w' w'' ∧ Row w'' g' (up l') := by
            intro w' hr'
            have := refdo_any gm cm l L[j].kind L[j].i w' hr' (by rw [HI.out.len]; omega) (by rw [HI.out.len]; omega)
            unfold RStepV at this
            rw [hst, HI.out.len] at this
            exact this
          have hlen' : l'.length = k := by
            have := step_len l L[j].kind L[j].i
            rw [hst] at this
            rw [← HI.out.len]; exact this
          have hlow' : ∀ x ∈ l', x < 3 := by
            have := step_low l L[j].kind L[j].i HI.out.low
            rw [hst] at this
            exact this
          have HL := Lib.hid (And.intro hlen' hlow')
          have HD := Lib.hid hdo
          have HR := Lib.hid hrf
          have d0 := (HI.out.bl.cell (p := ⟨b, off + j * 2, none⟩) hbw).trans c0
          have d1 := (HI.out.bl.cell (p := ⟨b, off + j * 2 + 1, none⟩) hbw).trans c1
          have HC := Lib.hid (And.intro hbw (And.intro c0 c1))
          clear hdo hrf hlen' hlow' hst c0 c1 hbw
          go_wp2_with fail
          refine HD.out.mono ?_
          rintro e w2 ⟨rfl, ho, ha⟩
          have hdid := HI.out.did HBB.out ho ha
          have HA := Lib.hid hdid
          have d2 := (HA.out.1.cell (p := ⟨b, off + j * 2, none⟩) HC.out.1).trans HC.out.2.1
          have d3 := (HA.out.1.cell (p := ⟨b, off + j * 2 + 1, none⟩) HC.out.1).trans HC.out.2.2
          clear ho ha hdid d0 d1
          go_wp2_with fail
          refine (HR.out _ HA.out.2.1).mono ?_
          rintro e w3 ⟨g', cm', rfl, hg', hb3, hrow3⟩
          have hat3 := HA.out.2.2.below hb3
          have hinv : Inv w w1.heap.size k g r l' g' w3 :=
            ⟨HA.out.1.trans (hb3.mono HA.out.1.size), hat3, hrow3, by have h1 := HI.out.far; have h2 := HA.out.2.1.lt; omega, HL.out.1, HL.out.2⟩
          have HJ := Lib.hid hinv
          clear hg' hb3 hrow3 hat3 hinv d2 d3
          go_wp2_with fail
          refine (count_any g r l' _ HJ.out.at_).mono ?_
          rintro e w4 ⟨rfl, hb4⟩
          have hrow4 := HJ.out.row.below hb4
          have hul : (up l').length = k := by rw [up_len]; exact HJ.out.len
          have hcnt : ∀ x, x < 3 → Calls Try.prog 14 #[.slice (some ⟨g', 0, none⟩) k cm', .int .i64 ((x + 1 : Nat) : Int)] w4 fun e w' => e = .returned (.int .i64 (l'.count x : Nat)) ∧ w4 = w' := by
            intro x _
            have := refcount_any g' cm' (x + 1) (up l') w4 hrow4 (by rw [hul]; omega)
            rw [hul, up_count] at this
            exact this
          have HC1 := Lib.hid (hcnt 0 (by omega))
          have HC2 := Lib.hid (hcnt 1 (by omega))
          have HC3 := Lib.hid (hcnt 2 (by omega))
          have hinv : Inv w w1.heap.size k g r l' g' w4 :=
            ⟨HJ.out.bl.trans (hb4.mono HJ.out.bl.size), HJ.out.at_.below hb4, hrow4, HJ.out.far, HJ.out.len, HJ.out.low⟩
          have HQ := Lib.hid hinv
          clear hcnt hul hrow4 hb4 hinv
          go_wp2_with fail
          refine HC1.out.mono ?_
          rintro e w' ⟨rfl, rfl⟩
          go_wp2_with fail
          refine HC2.out.mono ?_
          rintro e w' ⟨rfl, rfl⟩
          go_wp2_with fail
          refine HC3.out.mono ?_
          rintro e w' ⟨rfl, rfl⟩
          go_wp2_with fail
          go_roundw
          case rel => exact ⟨j + 1, l', g', cm', by omega, by go_num, rfl, HQ.out⟩
          case measure => simp [intOf]; omega
        · have hat3 := Lib.hid HI.out.at_
          clear HS HBB HB1
          go_wp2_with fail
          go_loopw [20] (fun i wr => ∃ (j : Nat), j ≤ k ∧ i = .int .i64 j ∧ Inv w w1.heap.size k g r l gm wr) (fun i _ => k - (intOf i).toNat)
          case atStart => exact ⟨0, by omega, rfl, HI.out⟩
          case round =>
            clear HI hat3
            obtain ⟨j', hj', rfl, hinv⟩ := hrel
            have HI := Lib.hid hinv
            clear hinv
            by_cases hlt : j' < k
            · have hjl : j' < l.length := by rw [HI.out.len]; exact hlt
              have hst : stateOf l (j' : Int) = ((l[j'] + 1 : Nat) : Int) := by
                unfold stateOf
                rw [if_pos (by omega)]
                simp [hjl]
              have hcl := HI.out.row.cell (k := j') (by rw [up_len]; exact hjl)
              have hv : (up l)[j']'(by rw [up_len]; exact hjl) = l[j'] + 1 := by simp [up]
              rw [hv] at hcl
              have HST := Lib.hid hst
              have HCL := Lib.hid (And.intro hcl HI.out.row.lt)
              clear hst hcl hv
              have hcl := HCL.out.1
              have hgl := HCL.out.2
              go_wp2_with fail
              refine wp_region_flow_lit (fun w' => Below wr.heap.size wr w') (by kernel_rfl) (by kernel_rfl) (by go_grown) ?_
              repeat (first | (refine flow_pass ?_ ?_; (focus rfl); simp only [Act.put, List.setIfInBounds_toArray, List.set_cons_zero, List.set_cons_succ]) | (refine' flow_take (v := _) _ _ _; rotate_left; (focus rfl); (focus (intro wS hS; obtain ⟨hc, -⟩ := bcell hS; go_simp; try (with_reducible (first | exact ⟨rfl, hS⟩ | rfl)); done)); simp only [Act.put, List.setIfInBounds_toArray, List.set_cons_zero, List.set_cons_succ]))
              (refine' flow_take (v := _) _ _ _; rotate_left; (focus rfl); (focus (intro wS hS; go_simp; refine (state_bel g r _ l _ (HI.out.at_.below hS) HI.out.low _ HST.out).mono ?_; rintro e w' ⟨rfl, hb⟩; refine ⟨?_, hS.trans (hb.mono (Nat.le_trans (by simp) hS.size))⟩; rfl)); simp only [Act.put, List.setIfInBounds_toArray, List.set_cons_zero, List.set_cons_succ])
              repeat (first | (refine flow_pass ?_ ?_; (focus rfl); simp only [Act.put, List.setIfInBounds_toArray, List.set_cons_zero, List.set_cons_succ]) | (refine' flow_take (v := _) _ _ _; rotate_left; (focus rfl); (focus (intro wS hS; obtain ⟨hc, -⟩ := bcell hS; go_simp; try (with_reducible (first | exact ⟨rfl, hS⟩ | rfl)); done)); simp only [Act.put, List.setIfInBounds_toArray, List.set_cons_zero, List.set_cons_succ]))
              refine flow_nil ?_
              intro w5 hS
              have hinv : Inv w w1.heap.size k g r l gm w5 := ⟨HI.out.bl.trans (hS.mono HI.out.bl.size), HI.out.at_.below hS, HI.out.row.below hS, HI.out.far, HI.out.len, HI.out.low⟩
              have HQ := Lib.hid hinv
              clear hS hinv hcl hgl
              go_wp2_with fail
              go_roundw
              case rel => exact ⟨j' + 1, by omega, by go_num, HQ.out⟩
              case measure => simp [intOf]; omega
            · by_cases h0 : 0 ≤ other
              · by_cases hlo : other < (k : Int)
                · go_wp2_with fail
                  refine (HK.out _).mono ?_
                  rintro e w' ⟨rfl, hb⟩
                  go_wp2_with fail
                  go_ret
                  exact ⟨rfl, HI.out.bl.trans (hb.mono HI.out.bl.size)⟩
                · have hst : stateOf l other = 0 := by
                    unfold stateOf
                    rw [if_pos h0, List.getElem?_eq_none (by rw [HI.out.len]; omega)]
                  have HT := Lib.hid (state_bel g r other l wr HI.out.at_ HI.out.low 0 hst)
                  clear hst
                  go_wp2_with fail
                  refine HT.out.mono ?_
                  rintro e w6 ⟨rfl, hb6⟩
                  have HB6 := Lib.hid hb6
                  clear hb6
                  go_wp2_with fail
                  refine (HK.out _).mono ?_
                  rintro e w' ⟨rfl, hb⟩
                  go_wp2_with fail
                  go_ret
                  have h6 := HI.out.bl.trans (HB6.out.mono HI.out.bl.size)
                  exact ⟨rfl, h6.trans (hb.mono h6.size)⟩
              · have hst : stateOf l other = 0 := by
                  unfold stateOf
                  rw [if_neg h0]
                have HT := Lib.hid (state_bel g r other l wr HI.out.at_ HI.out.low 0 hst)
                clear hst
                go_wp2_with fail
                refine HT.out.mono ?_
                rintro e w6 ⟨rfl, hb6⟩
                have HB6 := Lib.hid hb6
                clear hb6
                go_wp2_with fail
                refine (HK.out _).mono ?_
                rintro e w' ⟨rfl, hb⟩
                go_wp2_with fail
                go_ret
                have h6 := HI.out.bl.trans (HB6.out.mono HI.out.bl.size)
                exact ⟨rfl, h6.trans (hb.mono h6.size)⟩
theorem do_walk (n : Int) (A : Option Addr) (L : List Stp) (cap : Nat) (_hlen : L.length ≤ maxLen) (_ : True) (other : Int) (w : World) (hs : StepsAt w A L) :
    Calls Try.prog 4 #[.int .i64 n, .slice A L.length cap, .int .i64 other] w fun e w' => e = .returned (.bool true) ∧ Below w.heap.size w w' := by
  by_cases hbig : (60 < n ∧ n ≤ 65536) ∨ 100 < L.length
  · exact do_big n other A L.length cap w hbig
  · by_cases hout : n < 1 ∨ 65536 < n
    · exact do_out n other A L.length cap w hout (by omega)
    · obtain ⟨N, rfl⟩ : ∃ N : Nat, n = N := ⟨n.toNat, by omega⟩
      exact do_main N other A L cap w hs (by omega) (by omega) (by omega)
end Go.Proofs.Yteecedlgjmkkkaa
