/- PendDoes: the walk. -/
import Derived.Test.YtbhiddppohbjhaaDoesObj
import Derived.Test.YtbhiddppohbjhaaUn
namespace Go.Proofs.Ytbhiddppohbjhaa
open Go Go.RowKit Go.Maps Go.WideShapes Go.ChangeMaps Go.WideMaps Go.MapKept
set_option maxRecDepth 100000
theorem due_few {M : Tb} {now : Int} {L : List Pk} (hM : Tok M) (h : DueL M now L) : L.length ≤ 4 := by
  have h1 : (L.map fun p => p.1.cl).Perm (([1, 2, 3, 4] : List Int).filter fun k => (M k).any fun p => decide (p.du ≤ now)) := by
    rw [List.perm_ext_iff_of_nodup (due_cl hM h) (List.Pairwise.filter _ (by decide))]
    intro k
    rw [List.mem_map, List.mem_filter]
    constructor
    · rintro ⟨p, hp, rfl⟩
      obtain ⟨j, h1, h2⟩ := (h.has p).1 hp
      have e1 := hM.me j _ h1
      have e2 := hM.lim j _ h1
      subst e1
      refine ⟨?_, by rw [h1]; simpa using h2⟩
      have e3 : p.1.cl = 1 ∨ p.1.cl = 2 ∨ p.1.cl = 3 ∨ p.1.cl = 4 := by omega
      simpa using e3
    · rintro ⟨_, hk⟩
      cases hp : M k with
      | none => rw [hp] at hk; cases hk
      | some p =>
        rw [hp] at hk
        exact ⟨⟨p, hM.ok k p hp⟩, (h.has _).2 ⟨k, hp, by simpa using hk⟩, hM.me k p hp⟩
  have h2 := h1.length_eq
  rw [List.length_map] at h2
  rw [h2]
  exact List.length_filter_le _ _
theorem kok_nat {k : Nat} (h : k ≤ 5) : kok k := by
  have : k = 0 ∨ k = 1 ∨ k = 2 ∨ k = 3 ∨ k = 4 ∨ k = 5 := by omega
  rcases this with rfl | rfl | rfl | rfl | rfl | rfl <;> rfl
theorem byK_vok {M : Tb} (h : Tok M) (u : Int) : (vOf (byK M u)).ok := by
  cases hb : byK M u with
  | none => exact zP_ok
  | some o =>
    obtain ⟨k, _, _, hk, _⟩ := by_some hb
    exact h.ok k o hk
set_option maxHeartbeats 64000000 in
theorem does_walk (A : Option Addr) (L : List St) (cap : Nat) (hlen : L.length ≤ maxLen) (hall : ∀ x ∈ L, x.ok) (up now : Int) (w : World) (hs : StsAt w A L) :
    Calls Try.prog 3 #[.slice A L.length cap, .int .i64 up, .int .i64 now] w fun e w' => e = .returned (.bool true) ∧ Below w.heap.size w w' := by
  have HL := Lib.hid (large_any A L cap w hlen hs hall)
  have HK := Lib.hid known_any
  have HNew := Lib.hid new_any
  have HS := Lib.hid hs
  have HAll := Lib.hid hall
  clear hs hall
  go_enter Try.func3, Try.ntmps3
  go_wp2_with fail
  refine HL.out.mono ?_
  rintro e w1 ⟨b, rfl, hb1, hb60⟩
  have HB1 := Lib.hid hb1
  clear hb1 hb60
  cases b
  · go_wp2_with fail
    refine (HNew.out _).mono ?_
    rintro e w2 ⟨g, mb, rfl, hb2, hp2⟩
    have hd2 : Dz w (w2.alloc (.cells zT 40)) g mb w2.heap.size (fun _ => none) (fun _ => none) tok_nil :=
      ⟨(show PA w2 w.heap.size g mb (fun _ => none) from ⟨hp2.obj, hp2.map, Nat.le_trans HB1.out.size hp2.g0, Nat.le_trans HB1.out.size hp2.m0, hp2.ok⟩).below (by go_grown), heap_alloc_new _ _,
        (HB1.out.trans (hb2.mono HB1.out.size)).trans ((show Below w2.heap.size w2 (w2.alloc (.cells zT 40)) by go_grown).mono (Nat.le_trans HB1.out.size hb2.size)), Nat.le_trans HB1.out.size hb2.size⟩
    have HD2 := Lib.hid hd2
    clear hb2 hp2 hd2
    go_wp2_with (first | (refine pw_alloc40 rfl rfl ?_))
    generalize w2.heap.size = b8 at *
    go_loopw [9] (fun i wr => ∃ k : Nat, k ≤ L.length ∧ i = .int .i64 k ∧ ∃ (M : Tb) (hM : Tok M), Dz w wr g mb b8 M M hM) (fun i _ => L.length - (intOf i).toNat)
    case atStart => exact ⟨0, by omega, rfl, _, _, HD2.out⟩
    case round =>
      obtain ⟨k, hk, rfl, M, hM, hd⟩ := hrel
      by_cases hlt : k < L.length
      · obtain ⟨b, off, rfl, hblt, hst⟩ := HS.out.at_ hlt
        have hso := HAll.out L[k] (by simp)
        generalize L[k] = s at *
        have HDO := Lib.hid (fun w => rdo_any (h := hM) hso w)
        have HST := Lib.hid (And.intro hst hblt)
        have HD := Lib.hid hd
        have hltI : (k : Int) < (L.length : Int) := by omega
        have hk63 : wrap64 ((k : Int) + 1) = (k : Int) + 1 := IntWalk.wrap64_in _ (by have : maxLen = 9223372036854775807 := rfl; omega)
        have hms : L.length - (intOf (.int .i64 (wrap64 ((k : Int) + 1)))).toNat < L.length - (intOf (.int .i64 (k : Int))).toNat := by
          rw [hk63]
          show L.length - ((k : Int) + 1).toNat < L.length - (k : Int).toNat
          omega
        clear hd hst hblt
        go_wp2_with fail
        have hS8 := (HD.out.below (show Below wr.heap.size wr wr.drew by go_grown)).sd
        refine wp_region_flow2_lit [(0, false), (1, false), (2, false), (3, false), (4, false), (5, false), (6, false), (7, false), (8, false), (9, true), (10, true), (11, false)] (SD w b8 M hM) (by kernel_rfl) (by kernel_rfl) (by kernel_rfl) hS8 ?_
        clear hS8
        (refine flow2_take (v := .agg (tabA M hM)) (o := _) rfl rfl (fun wS hS => gives_load40 rfl rfl (tab_size _ _) hS.tb ⟨hS, Ext.refl wS⟩) ?_; simp only [Act.put, List.setIfInBounds_toArray, List.set_cons_zero, List.set_cons_succ])
        repeat (first | (refine' flow2_pass (o := _) rfl _ _; (focus rfl); simp only [Act.put, List.setIfInBounds_toArray, List.set_cons_zero, List.set_cons_succ]) | (refine' flow2_take (v := _) (o := _) rfl _ _ _; rotate_left; (focus rfl); (focus (intro wS hS; have hE := Ext.refl wS; (skip); go_simp; try (with_reducible (first | exact ⟨rfl, hS, hE⟩ | rfl)); done)); simp only [Act.put, List.setIfInBounds_toArray, List.set_cons_zero, List.set_cons_succ]))
        (refine flow2_take (v := .agg s.arr) (o := _) rfl rfl (fun wS hS => gives_load44 rfl rfl hso (range_below HST.out.1 hS.bl HST.out.2) ⟨hS, Ext.refl wS⟩) ?_; simp only [Act.put, List.setIfInBounds_toArray, List.set_cons_zero, List.set_cons_succ])
        (refine' flow2_take (v := _) (o := _) rfl _ _ _; rotate_left; (focus rfl); (focus (intro wS hS; go_simp; refine (HDO.out _).mono ?_; rintro e w' ⟨rfl, hb⟩; refine ⟨?_, hS.below hb, hb⟩; rfl)); simp only [Act.put, List.setIfInBounds_toArray, List.set_cons_zero, List.set_cons_succ])
        repeat (first | (refine' flow2_pass (o := _) rfl _ _; (focus rfl); simp only [Act.put, List.setIfInBounds_toArray, List.set_cons_zero, List.set_cons_succ]) | (refine' flow2_take (v := _) (o := _) rfl _ _ _; rotate_left; (focus rfl); (focus (intro wS hS; have hE := Ext.refl wS; (skip); go_simp; try (with_reducible (first | exact ⟨rfl, hS, hE⟩ | rfl)); done)); simp only [Act.put, List.setIfInBounds_toArray, List.set_cons_zero, List.set_cons_succ]))
        refine flow2_turn (o := _) rfl rfl ?_
        intro w9 hE9 hS9 K hK
        refine turn_alloc40 rfl (hK _ _ (hS9.below (by go_grown)) ?_)
        clear hK K
        have HD9 := Lib.hid ((HD.out.below (show Below wr.heap.size wr wr.drew by go_grown)).below hE9)
        clear hE9 hS9
        simp only [Act.put, List.setIfInBounds_toArray, List.set_cons_zero, List.set_cons_succ]
        refine flow2_turn (o := _) rfl rfl ?_
        intro w10 hE10 hS10 K hK
        have h10 : w10.heap[w9.heap.size]? = some (.cells zT 40) := (hE10.block _ (by rw [alloc_size]; omega)).trans (heap_alloc_new w9 _)
        refine turn_store40 rfl (tab_size _ _) (tab_all _ _) zT_size rfl rfl h10 fun w11 hx11 hg11 => ?_
        have hb11 : Below w9.heap.size w9 w11 := ((show Below w9.heap.size w9 (w9.alloc (.cells zT 40)) by go_grown).trans (hE10.mono (by rw [alloc_size]; omega))).grown hg11 (Nat.le_trans (by rw [alloc_size]; omega) hE10.size) (fun j hj => by cases hj; exact Nat.le_refl _)
        have hd11 := HD9.out.below hb11
        refine hK _ _ hd11.sd ?_
        clear hK K
        have H11 := Lib.hid (And.intro hd11 hx11)
        clear h10 hb11 hd11 hx11 hg11 hE10 hS10
        simp only [Act.put, List.setIfInBounds_toArray, List.set_cons_zero, List.set_cons_succ]
        repeat (first | (refine' flow2_pass (o := _) rfl _ _; (focus rfl); simp only [Act.put, List.setIfInBounds_toArray, List.set_cons_zero, List.set_cons_succ]) | (refine' flow2_take (v := _) (o := _) rfl _ _ _; rotate_left; (focus rfl); (focus (intro wS hS; have hE := Ext.refl wS; (skip); go_simp; try (with_reducible (first | exact ⟨rfl, hS, hE⟩ | rfl)); done)); simp only [Act.put, List.setIfInBounds_toArray, List.set_cons_zero, List.set_cons_succ]))
        refine flow2_nil ?_
        intro w12 hE12 hS12
        have hd12 := H11.out.1.below hE12
        have hx12 := (hE12.block _ (heap_lt H11.out.2)).trans H11.out.2
        have H12 := Lib.hid (And.intro hd12 hx12)
        clear hE12 hS12 hd12 hx12
        go_wp2_with (first
          | (refine pw_load40 rfl (.tmp 10) rfl w9.heap.size rfl (tabA (doM M s).1 (doM_ok hM hso)) (tab_size _ _) H12.out.2 ?_)
          | (refine pw_store40 rfl (.tmp 8) (.tmp 40) rfl b8 (tabA (doM M s).1 (doM_ok hM hso)) (tab_size _ _) (tab_all _ _) (tabA M hM) (tab_size _ _) rfl rfl H12.out.1.tb ?_; intro w13 hb13 hg13 hs13; have H13 := Lib.hid (H12.out.1.store hb13 hg13); clear hb13 hg13 hs13))
        have hd13 := H13.out.below (show Below w13.heap.size w13 w13.drew by go_grown)
        have HD13 := Lib.hid hd13
        clear hd13
        have e0 : ((doM M s).2 != (doM M s).2) = false := bne_self_eq_false _
        have e1 : ((cnt (doM M s).1 : Int) != (cnt (doM M s).1 : Int)) = false := bne_self_eq_false _
        have HLD : Hid (∀ wS, SD w b8 (doM M s).1 (doM_ok hM hso) wS → wS.heap[b8]? = some (.cells (tabA (doM M s).1 (doM_ok hM hso)) 40)) := Lib.hid (fun _ hS => hS.tb)
        have hS10 := HD13.out.sd
        refine wp_region_flow2_lit [(0, false), (1, false), (2, false), (3, false), (4, false), (6, false), (5, true), (7, false), (8, false), (9, false), (11, false), (10, true), (12, false), (13, false), (14, false), (15, false), (16, false), (17, false), (19, false), (20, false), (18, true), (21, true), (22, true), (23, false), (24, false)] (SD w b8 (doM M s).1 (doM_ok hM hso)) (by kernel_rfl) (by kernel_rfl) (by kernel_rfl) hS10 ?_
        clear hS10
        repeat (first | (refine' flow2_pass (o := _) rfl _ _; (focus rfl); simp only [Act.put, List.setIfInBounds_toArray, List.set_cons_zero, List.set_cons_succ]) | (refine' flow2_take (v := _) (o := _) rfl _ _ _; rotate_left; (focus rfl); (focus (intro wS hS; have hE := Ext.refl wS; (skip); go_simp; try (with_reducible (first | exact ⟨rfl, hS, hE⟩ | rfl)); done)); simp only [Act.put, List.setIfInBounds_toArray, List.set_cons_zero, List.set_cons_succ]))
        (refine flow2_take (v := .agg s.arr) (o := _) rfl rfl (fun wS hS => gives_load44 rfl rfl hso (range_below HST.out.1 hS.bl HST.out.2) ⟨hS, Ext.refl wS⟩) ?_; simp only [Act.put, List.setIfInBounds_toArray, List.set_cons_zero, List.set_cons_succ])
        repeat (first | (refine' flow2_pass (o := _) rfl _ _; (focus rfl); simp only [Act.put, List.setIfInBounds_toArray, List.set_cons_zero, List.set_cons_succ]) | (refine' flow2_take (v := _) (o := _) rfl _ _ _; rotate_left; (focus rfl); (focus (intro wS hS; have hE := Ext.refl wS; (skip); go_simp; try (with_reducible (first | exact ⟨rfl, hS, hE⟩ | rfl)); done)); simp only [Act.put, List.setIfInBounds_toArray, List.set_cons_zero, List.set_cons_succ]))
        (refine' flow2_turn (o := _) rfl _ _; (focus rfl); intro wT hE hS K hK; (skip); go_simp)
        refine (do_any (HD13.out.below hE).pa (HD13.out.below hE).bl.size hso).mono ?_
        rintro e w6 ⟨rfl, hp6, hg6⟩
        have hd6 := (HD13.out.below hE).did hp6 hg6
        refine hK _ _ hd6.sd ?_
        have H6 := Lib.hid hd6
        clear hK hE hS K hp6 hg6 hd6
        simp only [Act.put, List.setIfInBounds_toArray, List.set_cons_zero, List.set_cons_succ]
        repeat (first | (refine' flow2_pass (o := _) rfl _ _; (focus rfl); simp only [Act.put, List.setIfInBounds_toArray, List.set_cons_zero, List.set_cons_succ]) | (refine' flow2_take (v := _) (o := _) rfl _ _ _; rotate_left; (focus rfl); (focus (intro wS hS; have hE := Ext.refl wS; (skip); go_simp; try (with_reducible (first | exact ⟨rfl, hS, hE⟩ | rfl)); done)); simp only [Act.put, List.setIfInBounds_toArray, List.set_cons_zero, List.set_cons_succ]))
        (refine flow2_take (v := .agg (tabA (doM M s).1 (doM_ok hM hso))) (o := _) rfl rfl (fun wS hS => gives_load40 rfl rfl (tab_size _ _) hS.tb ⟨hS, Ext.refl wS⟩) ?_; simp only [Act.put, List.setIfInBounds_toArray, List.set_cons_zero, List.set_cons_succ])
        (refine' flow2_turn (o := _) rfl _ _; (focus rfl); intro wT hE hS K hK; (skip); go_simp)
        refine (len_any (H6.out.below hE).pa).mono ?_
        rintro e w7 ⟨rfl, rfl⟩
        refine hK _ _ hS ?_
        have H7 := Lib.hid (H6.out.below hE)
        clear hK hE hS K
        simp only [Act.put, List.setIfInBounds_toArray, List.set_cons_zero, List.set_cons_succ]
        (refine' flow2_take (v := _) (o := _) rfl _ _ _; rotate_left; (focus rfl); (focus (intro wS hS; go_simp; refine (rlen_any _).mono ?_; rintro e w' ⟨rfl, hb⟩; refine ⟨?_, hS.below hb, hb⟩; rfl)); simp only [Act.put, List.setIfInBounds_toArray, List.set_cons_zero, List.set_cons_succ])
        repeat (first | (refine' flow2_pass (o := _) rfl _ _; (focus rfl); simp only [Act.put, List.setIfInBounds_toArray, List.set_cons_zero, List.set_cons_succ]) | (refine' flow2_take (v := _) (o := _) rfl _ _ _; rotate_left; (focus rfl); (focus (intro wS hS; have hE := Ext.refl wS; (skip); go_simp; try (with_reducible (first | exact ⟨rfl, hS, hE⟩ | rfl)); done)); simp only [Act.put, List.setIfInBounds_toArray, List.set_cons_zero, List.set_cons_succ]))
        (refine flow2_take (v := .agg (tabA (doM M s).1 (doM_ok hM hso))) (o := _) rfl rfl (fun wS hS => gives_load40 rfl rfl (tab_size _ _) hS.tb ⟨hS, Ext.refl wS⟩) ?_; simp only [Act.put, List.setIfInBounds_toArray, List.set_cons_zero, List.set_cons_succ])
        repeat (first | (refine' flow2_pass (o := _) rfl _ _; (focus rfl); simp only [Act.put, List.setIfInBounds_toArray, List.set_cons_zero, List.set_cons_succ]) | (refine' flow2_take (v := _) (o := _) rfl _ _ _; rotate_left; (focus rfl); (focus (intro wS hS; have hE := Ext.refl wS; (skip); go_simp; try (with_reducible (first | exact ⟨rfl, hS, hE⟩ | rfl)); done)); simp only [Act.put, List.setIfInBounds_toArray, List.set_cons_zero, List.set_cons_succ]))
        (refine' flow2_turn (o := _) rfl _ _; (focus rfl); intro wT hE hS K hK; (skip); go_simp)
        refine (due_any (H7.out.below hE).pa now).mono ?_
        rintro e w8 ⟨A1, cap1, L1, rfl, hsl1, hb8, hdl1⟩
        refine hK _ _ (hS.below hb8) ?_
        have H8 := Lib.hid (And.intro ((H7.out.below hE).below hb8) (And.intro hsl1 hdl1))
        clear hK hE hS K hb8 hsl1 hdl1
        simp only [Act.put, List.setIfInBounds_toArray, List.set_cons_zero, List.set_cons_succ]
        (refine' flow2_turn (o := _) rfl _ _; (focus rfl); intro wT hE hS K hK; (skip); go_simp)
        refine (rdue_any now _).mono ?_
        rintro e w9' ⟨A2, cap2, L2, rfl, hsl2, hb9, hdl2⟩
        obtain rfl := due_one (doM_ok hM hso) H8.out.2.2 hdl2
        refine hK _ _ (hS.below hb9) ?_
        have H9 := Lib.hid (And.intro ((H8.out.1.below hE).below hb9) (And.intro (H8.out.2.1.below (hE.trans hb9)) hsl2))
        clear hK hE hS K hb9 hsl2 hdl2
        simp only [Act.put, List.setIfInBounds_toArray, List.set_cons_zero, List.set_cons_succ]
        (refine' flow2_turn (o := _) rfl _ _; (focus rfl); intro wT hE hS K hK; (skip); go_simp)
        refine (rsame_any A1 A2 cap1 cap2 L1 _ (H9.out.2.1.below hE) (H9.out.2.2.below hE) (Nat.le_trans (due_few (doM_ok hM hso) H8.out.2.2) (by decide))).mono ?_
        rintro e w10' ⟨rfl, hb10⟩
        refine hK _ _ (hS.below hb10) ?_
        have H10 := Lib.hid ((H9.out.1.below hE).below hb10)
        clear hK hE hS K hb10
        simp only [Act.put, List.setIfInBounds_toArray, List.set_cons_zero, List.set_cons_succ]
        repeat (first | (refine' flow2_pass (o := _) rfl _ _; (focus rfl); simp only [Act.put, List.setIfInBounds_toArray, List.set_cons_zero, List.set_cons_succ]) | (refine' flow2_take (v := _) (o := _) rfl _ _ _; rotate_left; (focus rfl); (focus (intro wS hS; have hE := Ext.refl wS; (skip); go_simp; try (with_reducible (first | exact ⟨rfl, hS, hE⟩ | rfl)); done)); simp only [Act.put, List.setIfInBounds_toArray, List.set_cons_zero, List.set_cons_succ]))
        refine flow2_nil ?_
        intro w14 hE14 hS14
        have H14 := Lib.hid (H10.out.below hE14)
        clear hE14 hS14
        go_wp2_with fail
        go_loopw [12] (fun c wq => ∃ n : Nat, n ≤ 6 ∧ c = .int .i64 n ∧ Dz w wq g mb b8 (doM M s).1 (doM M s).1 (doM_ok hM hso)) (fun c _ => 6 - (intOf c).toNat)
        case atStart => exact ⟨0, by omega, rfl, H14.out⟩
        case round =>
          obtain ⟨n, hn, rfl, hdq⟩ := hrel
          have HDQ := Lib.hid hdq
          clear hdq
          by_cases h5 : n ≤ 5
          · have h5I : (n : Int) ≤ 5 := by omega
            have HOF := Lib.hid (of_any HDQ.out.pa (kok_nat (k := n) (by omega)))
            have HOK := Lib.hid ((doM_ok hM hso).vok n)
            go_wp2_with fail
            refine HOF.out.mono ?_
            rintro e w15 ⟨rfl, hb15⟩
            have HD15 := Lib.hid (HDQ.out.below hb15)
            clear hb15
            go_wp2_with (first
              | (refine pw_put _ 13 (.tmp 74) rfl rfl rfl rfl rfl rfl (vOf ((doM M s).1 n)) HOK.out rfl rfl ?_)
              | (refine pw_load40 rfl (.tmp 8) rfl b8 rfl (tabA (doM M s).1 (doM_ok hM hso)) (tab_size _ _) (heap_old_at HD15.out.tb) ?_))
            refine (rof_any n _).mono ?_
            rintro e w16 ⟨rfl, hb16⟩
            have hz16 : w16.heap[w15.heap.size]? = some (.cells (vOf ((doM M s).1 n)).arr 37) := (hb16.block _ (by rw [alloc_size]; omega)).trans (heap_alloc_new _ _)
            have hd16 := (HD15.out.below (show Below w15.heap.size w15 (w15.alloc (.cells (vOf ((doM M s).1 n)).arr 37)) by go_grown)).below hb16
            have HD16 := Lib.hid (And.intro hd16 hz16)
            clear hb16 hz16 hd16
            have e2 : (((doM M s).1 n).isSome != ((doM M s).1 n).isSome) = false := bne_self_eq_false _
            go_wp2_with (first
              | (refine pw_put _ 15 (.tmp 80) rfl rfl rfl rfl rfl rfl (vOf ((doM M s).1 n)) HOK.out rfl rfl ?_)
              | (refine pw_load rfl (.tmp 13) rfl w15.heap.size rfl (vOf ((doM M s).1 n)) HOK.out (heap_old_at HD16.out.2) ?_)
              | (refine pw_load rfl (.tmp 15) rfl w16.heap.size rfl (vOf ((doM M s).1 n)) HOK.out (heap_alloc_new _ _) ?_)
              | (refine gw_neq (.tmp 82) (.tmp 83) 37 rfl rfl (vOf ((doM M s).1 n)) HOK.out rfl rfl ?_))
            go_roundw
            case rel => exact ⟨n + 1, by omega, by go_num, HD16.out.1.below (by go_grown)⟩
            case measure => simp [intOf]; omega
          · have h5I : ¬ (n : Int) ≤ 5 := by omega
            have HBY := Lib.hid (by_any HDQ.out.pa up)
            have HRBY := Lib.hid (fun w => rby_any (h := doM_ok hM hso) up w)
            have HOK := Lib.hid (byK_vok (doM_ok hM hso) up)
            generalize byK (doM M s).1 up = o at HBY HRBY HOK
            go_wp2_with fail
            refine HBY.out.mono ?_
            rintro e w15 ⟨rfl, hb15⟩
            have HD15 := Lib.hid (HDQ.out.below hb15)
            clear hb15
            go_wp2_with (first
              | (refine pw_put _ 17 (.tmp 94) rfl rfl rfl rfl rfl rfl (vOf o) HOK.out rfl rfl ?_)
              | (refine pw_load40 rfl (.tmp 8) rfl b8 rfl (tabA (doM M s).1 (doM_ok hM hso)) (tab_size _ _) (heap_old_at HD15.out.tb) ?_))
            refine (HRBY.out _).mono ?_
            rintro e w16 ⟨rfl, hb16⟩
            have hz16 : w16.heap[w15.heap.size]? = some (.cells (vOf o).arr 37) := (hb16.block _ (by rw [alloc_size]; omega)).trans (heap_alloc_new _ _)
            have hd16 := (HD15.out.below (show Below w15.heap.size w15 (w15.alloc (.cells (vOf o).arr 37)) by go_grown)).below hb16
            have HD16 := Lib.hid (And.intro hd16 hz16)
            clear hb16 hz16 hd16
            have e2 : ((o).isSome != (o).isSome) = false := bne_self_eq_false _
            go_wp2_with (first
              | (refine pw_put _ 19 (.tmp 100) rfl rfl rfl rfl rfl rfl (vOf o) HOK.out rfl rfl ?_)
              | (refine pw_load rfl (.tmp 17) rfl w15.heap.size rfl (vOf o) HOK.out (heap_old_at HD16.out.2) ?_)
              | (refine pw_load rfl (.tmp 19) rfl w16.heap.size rfl (vOf o) HOK.out (heap_alloc_new _ _) ?_)
              | (refine gw_neq (.tmp 102) (.tmp 103) 37 rfl rfl (vOf o) HOK.out rfl rfl ?_))
            go_roundw
            case rel => exact ⟨k + 1, by omega, by rw [hk63]; rfl, _, _, HD16.out.1.below (by go_grown)⟩
            case measure => exact hms
      · have HD := Lib.hid hd
        clear hd
        have hltI : ¬ (k : Int) < (L.length : Int) := by omega
        go_wp2_with fail
        refine (HK.out _).mono ?_
        rintro e0 w3 ⟨rfl, hb⟩
        have HB3 := Lib.hid (HD.out.bl.trans (hb.mono HD.out.bl.size))
        clear hb
        go_wp2_with fail
        go_returns
        exact ⟨rfl, HB3.out⟩
  · go_wp2_with fail
    refine (HK.out _).mono ?_
    rintro e0 w3 ⟨rfl, hb⟩
    have HB3 := Lib.hid (HB1.out.trans (hb.mono HB1.out.size))
    clear hb
    go_wp2_with fail
    go_returns
    exact ⟨rfl, HB3.out⟩
end Go.Proofs.Ytbhiddppohbjhaa
