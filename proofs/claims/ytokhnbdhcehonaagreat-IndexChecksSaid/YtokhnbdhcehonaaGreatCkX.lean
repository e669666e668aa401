/- index: is a cache too large. -/
import Derived.Test.YtokhnbdhcehonaaGreatRdC
import Derived.Test.YtokhnbdhcehonaaGreatLg
import Derived.Test.YtokhnbdhcehonaaGreatOpen18
import Derived.Lib.SmallJoins
set_option linter.unusedSimpArgs false
set_option linter.unusedVariables false
namespace Go.Proofs.YtokhnbdhcehonaaGreat.O
open Go Go.RowKit Row
set_option maxRecDepth 100000
def LcV (c : Ca) (w : World) (r : Ending) (w' : World) : Prop := ∃ b : Bool, r = .returned (.bool b) ∧ (b = false → Few c 60) ∧ Below w.heap.size w w'
theorem formed_any (b : Bool) (w : World) : Calls Tryz.prog 30 #[.bool b] w fun r w' => r = .returned (.int .i64 (if b = true then 0 else 14)) ∧ w' = w := by
  cases b
  all_goals
    go_enter Tryz.func30, Tryz.ntmps30
    go_wp2_with fail
    go_ret
    exact ⟨rfl, rfl⟩
theorem slice_cases {w : World} {B : Nat} {A : Option Addr} {n k : Nat} {l : List Ch} (h : Go.Proofs.YtokhnbdhcehonaaGreat.Rs w B (.slice A n k) l) : (A = none ∧ n = 0 ∧ k = 0) ∨ ∃ b off, A = some ⟨b, off, none⟩ := by
  rcases h.2 with ⟨h0, _⟩ | ⟨b, off, cap, cur, he, _⟩
  · injection h0 with e1 e2 e3
    exact .inl ⟨e1, e2, e3⟩
  · injection he with e1 e2 e3
    exact .inr ⟨b, off, e1⟩
theorem ro_take {w : World} {B : Nat} {A : Option Addr} {k m : Nat} {l : List Ch} (h : Go.Proofs.YtokhnbdhcehonaaGreat.Rs w B (.slice A l.length k) l) (hm : m ≤ l.length) (hk : m ≤ k) : Ro w (.slice A m k) (l.take m) := by
  have hlen : (l.take m).length = m := by rw [List.length_take]; omega
  refine ⟨⟨A, k, by rw [hlen], by rw [hlen]; exact hk, ?_⟩, fun hp => ?_⟩
  · obtain ⟨A', c', he, _, h2⟩ := h.any
    injection he with e1 e2 e3
    rw [e3]; exact h2
  · rw [hlen] at hp
    obtain ⟨b, off, c', he, _, _⟩ := h.shape (by omega)
    rw [he] at h
    refine ⟨b, off, k, ?_, h.lt b rfl, fun j hj => ?_⟩
    · injection he with e1 e2 e3
      rw [hlen, e1]
    · rw [hlen] at hj
      rw [List.getElem_take]
      exact h.range (by omega)
set_option maxHeartbeats 16000000 in
theorem rlarge_any {c : Ca} {cv : Cv} {w : World} (h : CaAt w cv c) : Calls Tryz.prog 28 #[.agg (arr cv)] w (LcV c w) := by
  obtain ⟨Wb, hW⟩ : ∃ Wb, Wb = w.alloc (.cells (arr cv) 30) := ⟨_, rfl⟩
  have hb0 : Below w.heap.size w Wb := by rw [hW]; exact bel_box
  have HX : Hid (Wb.heap[w.heap.size]? = some (.cells (arr cv) 30)) := Lib.hid (by rw [hW]; exact heap_alloc_new _ _)
  have HB := Lib.hid hb0
  have HCA := Lib.hid (h.below hb0)
  have HW := Lib.hid hW
  obtain ⟨A1, p1, hv1, q1, _⟩ := HCA.out.hs.any
  obtain ⟨A2, p2, hv2, q2, _⟩ := HCA.out.fs.any
  obtain ⟨A3, p3, hv3, q3, _⟩ := HCA.out.ns.any
  obtain ⟨A4, p4, hv4, q4, _⟩ := HCA.out.bs.any
  have HCC : Hid (∀ wS, Below Wb.heap.size Wb wS → wS.cell? ⟨w.heap.size, 0, none⟩ = some (.slice A1 c.hs.length p1) ∧ wS.cell? ⟨w.heap.size, 1, none⟩ = some (.slice A2 c.fs.length p2) ∧ wS.cell? ⟨w.heap.size, 2, none⟩ = some (.slice A3 c.ns.length p3) ∧ wS.cell? ⟨w.heap.size, 3, none⟩ = some (.slice A4 c.bs.length p4)) := Lib.hid (fun wS hS => by
    have := cv_cells ((hS.block _ (heap_lt HX.out)).trans HX.out)
    rwa [hv1, hv2, hv3, hv4] at this)
  clear h hb0 hW hv1 hv2 hv3 hv4
  have HF : Hid (c.hs.length ≤ 60 → c.fs.length ≤ 60 → c.ns.length ≤ 60 → c.bs.length ≤ 60 → Few c 60) := Lib.hid (fun a b d e => ⟨a, b, d, e⟩)
  generalize hn1 : c.hs.length = n1 at *
  generalize hn2 : c.fs.length = n2 at *
  generalize hn3 : c.ns.length = n3 at *
  generalize hn4 : c.bs.length = n4 at *
  clear hn1 hn2 hn3 hn4
  have hm63 : maxLen = 9223372036854775807 := rfl
  by_cases hc : n1 ≤ 60 ∧ n2 ≤ 60 ∧ n3 ≤ 60 ∧ n4 ≤ 60
  · obtain ⟨g1, g2, g3, g4⟩ := hc
    have J1 : Hid (decide ((60 : Int) < (n1 : Int)) = false) := Lib.hid (decide_eq_false (by omega))
    have J2 : Hid (decide ((60 : Int) < (n2 : Int)) = false) := Lib.hid (decide_eq_false (by omega))
    have J3 : Hid (decide ((60 : Int) < (n3 : Int)) = false) := Lib.hid (decide_eq_false (by omega))
    have J4 : Hid (decide ((60 : Int) < (n4 : Int)) = false) := Lib.hid (decide_eq_false (by omega))
    have HFW := Lib.hid (HF.out g1 g2 g3 g4)
    have HFW2 := Lib.hid (HFW.out.up (show 60 ≤ 100 by decide))
    go_enter Tryz.func28, Tryz.ntmps28
    go_wp2_with fail
    rw [← HW.out]
    refine wp_region_flow2_lit [(0, false), (1, false), (2, false), (3, false), (4, false), (5, false), (6, false), (7, false), (8, false), (9, false), (10, false), (11, false), (12, false), (13, false), (14, false), (15, false), (16, false), (17, false), (18, false), (19, false), (20, false), (21, false), (22, false), (23, false), (25, false), (24, true), (26, true), (27, false), (28, false), (29, false), (30, true), (31, false), (32, false)] (fun wS => Below Wb.heap.size Wb wS) (by kernel_rfl) (by kernel_rfl) (by kernel_rfl) (Below.refl _ _).drew ?_
    repeat (first | (refine' flow2_pass (o := _) rfl _ _; (focus rfl); simp only [Act.put, List.setIfInBounds_toArray, List.set_cons_zero, List.set_cons_succ]) | (refine' flow2_take (v := _) (o := _) rfl _ _ _; rotate_left; (focus rfl); (focus (intro wS hS; have hE := Ext.refl wS; (obtain ⟨d0, -, -, -⟩ := HCC.out wS hS; have j1 := J1.out); go_simp; try (with_reducible (first | exact ⟨rfl, hS, hE⟩ | rfl)); done)); simp only [Act.put, List.setIfInBounds_toArray, List.set_cons_zero, List.set_cons_succ]))
    repeat (first | (refine' flow2_pass (o := _) rfl _ _; (focus rfl); simp only [Act.put, List.setIfInBounds_toArray, List.set_cons_zero, List.set_cons_succ]) | (refine' flow2_take (v := _) (o := _) rfl _ _ _; rotate_left; (focus rfl); (focus (intro wS hS; have hE := Ext.refl wS; (obtain ⟨-, d1, -, -⟩ := HCC.out wS hS; have j2 := J2.out); go_simp; try (with_reducible (first | exact ⟨rfl, hS, hE⟩ | rfl)); done)); simp only [Act.put, List.setIfInBounds_toArray, List.set_cons_zero, List.set_cons_succ]))
    repeat (first | (refine' flow2_pass (o := _) rfl _ _; (focus rfl); simp only [Act.put, List.setIfInBounds_toArray, List.set_cons_zero, List.set_cons_succ]) | (refine' flow2_take (v := _) (o := _) rfl _ _ _; rotate_left; (focus rfl); (focus (intro wS hS; have hE := Ext.refl wS; (obtain ⟨-, -, d2, -⟩ := HCC.out wS hS; have j3 := J3.out); go_simp; try (with_reducible (first | exact ⟨rfl, hS, hE⟩ | rfl)); done)); simp only [Act.put, List.setIfInBounds_toArray, List.set_cons_zero, List.set_cons_succ]))
    repeat (first | (refine' flow2_pass (o := _) rfl _ _; (focus rfl); simp only [Act.put, List.setIfInBounds_toArray, List.set_cons_zero, List.set_cons_succ]) | (refine' flow2_take (v := _) (o := _) rfl _ _ _; rotate_left; (focus rfl); (focus (intro wS hS; have hE := Ext.refl wS; (obtain ⟨-, -, -, d3⟩ := HCC.out wS hS; have j4 := J4.out); go_simp; try (with_reducible (first | exact ⟨rfl, hS, hE⟩ | rfl)); done)); simp only [Act.put, List.setIfInBounds_toArray, List.set_cons_zero, List.set_cons_succ]))
    (refine flow2_take (v := .agg (arr cv)) (o := _) rfl rfl (fun wS hS => gives_row rfl rfl (range_row ((hS.block _ (heap_lt HX.out)).trans HX.out)) ⟨hS, Ext.refl wS⟩) ?_; simp only [Act.put, List.setIfInBounds_toArray, List.set_cons_zero, List.set_cons_succ])
    (refine flow2_take (v := .agg (arr cv)) (o := _) rfl rfl (fun wS hS => gives_row rfl rfl (range_row ((hS.block _ (heap_lt HX.out)).trans HX.out)) ⟨hS, Ext.refl wS⟩) ?_; simp only [Act.put, List.setIfInBounds_toArray, List.set_cons_zero, List.set_cons_succ])
    refine flow2_turn (o := _) rfl rfl ?_
    intro wT hE hS K hK
    go_simp
    refine (changes_any (HCA.out.below hS) HFW2.out).mono ?_
    rintro e w1 ⟨v1, rfl, hr1, hb1⟩
    obtain ⟨B1, k1, hw1, hl1, hx1⟩ := hr1.any
    subst hw1
    have HR1 := Lib.hid hr1
    have hS1 := hS.trans (hb1.mono hS.size)
    refine hK _ _ hS1 ?_
    clear hE hS hK K hb1 hr1 hS1
    simp only [Act.put, List.setIfInBounds_toArray, List.set_cons_zero, List.set_cons_succ]
    refine flow2_turn (o := _) rfl rfl ?_
    intro wU hE hS K hK
    go_simp
    refine (changes_any (HCA.out.below hS) HFW2.out).mono ?_
    rintro e w2 ⟨v2, rfl, hr2, hb2⟩
    obtain ⟨B2, k2, hw2, hl2, hx2⟩ := hr2.any
    subst hw2
    have HR12 := Lib.hid ((HR1.out.below hE).below hb2)
    have hS1 := hS.trans (hb2.mono hS.size)
    refine hK _ _ hS1 ?_
    clear hE hS hK K hb2 hr2 hS1 hl2 hx2
    simp only [Act.put, List.setIfInBounds_toArray, List.set_cons_zero, List.set_cons_succ]
    generalize chgC c = lc at *
    obtain ⟨m, hm, hml, hmc⟩ : ∃ m : Nat, m = min 40 lc.length ∧ m ≤ lc.length ∧ m ≤ k1 := ⟨_, rfl, by omega, by omega⟩
    have HMI : Hid (min (40 : Int) (lc.length : Int) = (m : Int) ∧ (m : Int) ≤ (k1 : Int) ∧ (0 : Int) ≤ (m : Int)) := Lib.hid ⟨by omega, by omega, by omega⟩
    clear hm
    have HCS : Hid ((B1 = none ∧ lc.length = 0 ∧ k1 = 0) ∨ ∃ b off, B1 = some ⟨b, off, none⟩) := Lib.hid (slice_cases HR12.out)
    have HRM : Hid (∀ wS, Below w2.heap.size w2 wS → Ro wS (.slice B1 m k1) (lc.take m)) := Lib.hid (fun wS hS => (ro_take HR12.out hml hmc).below hS)
    rcases HCS.out with ⟨rfl, hl0, rfl⟩ | ⟨b, off, rfl⟩
    · obtain rfl : m = 0 := by omega
      repeat (first | (refine' flow2_pass (o := _) rfl _ _; (focus rfl); simp only [Act.put, List.setIfInBounds_toArray, List.set_cons_zero, List.set_cons_succ]) | (refine' flow2_take (v := _) (o := _) rfl _ _ _; rotate_left; (focus rfl); (focus (intro wS hS; have hE := Ext.refl wS; (have hm0 : min (40 : Int) 0 = 0 := by decide); go_simp; try (with_reducible (first | exact ⟨rfl, hS, hE⟩ | rfl)); done)); simp only [Act.put, List.setIfInBounds_toArray, List.set_cons_zero, List.set_cons_succ]))
      refine flow2_turn (o := _) rfl rfl ?_
      intro wV hE hS K hK
      go_simp
      refine (large_any (HRM.out wV hE)).mono ?_
      rintro e w3 ⟨bq, rfl, -, hww⟩
      obtain rfl := hww
      refine hK _ _ hS ?_
      clear hE hS hK K
      simp only [Act.put, List.setIfInBounds_toArray, List.set_cons_zero, List.set_cons_succ]
      repeat (first | (refine' flow2_pass (o := _) rfl _ _; (focus rfl); simp only [Act.put, List.setIfInBounds_toArray, List.set_cons_zero, List.set_cons_succ]) | (refine' flow2_take (v := _) (o := _) rfl _ _ _; rotate_left; (focus rfl); (focus (intro wS hS; have hE := Ext.refl wS; (skip); go_simp; try (with_reducible (first | exact ⟨rfl, hS, hE⟩ | rfl)); done)); simp only [Act.put, List.setIfInBounds_toArray, List.set_cons_zero, List.set_cons_succ]))
      refine flow2_nil ?_
      intro wT hE hS
      have HT := Lib.hid hS
      clear hE hS
      go_wp2_with fail
      go_ret
      exact ⟨bq, rfl, fun _ => HFW.out, HB.out.trans (HT.out.mono HB.out.size)⟩
    · repeat (first | (refine' flow2_pass (o := _) rfl _ _; (focus rfl); simp only [Act.put, List.setIfInBounds_toArray, List.set_cons_zero, List.set_cons_succ]) | (refine' flow2_take (v := _) (o := _) rfl _ _ _; rotate_left; (focus rfl); (focus (intro wS hS; have hE := Ext.refl wS; (obtain ⟨hm1, hm2, hm3⟩ := HMI.out); go_simp; try (with_reducible (first | exact ⟨rfl, hS, hE⟩ | rfl)); done)); simp only [Act.put, List.setIfInBounds_toArray, List.set_cons_zero, List.set_cons_succ]))
      refine flow2_turn (o := _) rfl rfl ?_
      intro wV hE hS K hK
      go_simp
      refine (large_any (HRM.out wV hE)).mono ?_
      rintro e w3 ⟨bq, rfl, -, hww⟩
      obtain rfl := hww
      refine hK _ _ hS ?_
      clear hE hS hK K
      simp only [Act.put, List.setIfInBounds_toArray, List.set_cons_zero, List.set_cons_succ]
      repeat (first | (refine' flow2_pass (o := _) rfl _ _; (focus rfl); simp only [Act.put, List.setIfInBounds_toArray, List.set_cons_zero, List.set_cons_succ]) | (refine' flow2_take (v := _) (o := _) rfl _ _ _; rotate_left; (focus rfl); (focus (intro wS hS; have hE := Ext.refl wS; (skip); go_simp; try (with_reducible (first | exact ⟨rfl, hS, hE⟩ | rfl)); done)); simp only [Act.put, List.setIfInBounds_toArray, List.set_cons_zero, List.set_cons_succ]))
      refine flow2_nil ?_
      intro wT hE hS
      have HT := Lib.hid hS
      clear hE hS
      go_wp2_with fail
      go_ret
      exact ⟨bq, rfl, fun _ => HFW.out, HB.out.trans (HT.out.mono HB.out.size)⟩
  · have HT : ∀ wS, Below Wb.heap.size Wb wS → True := fun _ _ => trivial
    clear HT
    have hcc : 60 < n1 ∨ (n1 ≤ 60 ∧ 60 < n2) ∨ (n1 ≤ 60 ∧ n2 ≤ 60 ∧ 60 < n3) ∨ (n1 ≤ 60 ∧ n2 ≤ 60 ∧ n3 ≤ 60 ∧ 60 < n4) := by omega
    clear hc HF
    rcases hcc with h1 | ⟨h1, h2⟩ | ⟨h1, h2, h3⟩ | ⟨h1, h2, h3, h4⟩
    · have J1 : Hid (decide ((60 : Int) < (n1 : Int)) = true) := Lib.hid (decide_eq_true (by omega))
      go_enter Tryz.func28, Tryz.ntmps28
      go_wp2_with fail
      rw [← HW.out]
      refine wp_region_flow2_lit [(0, false), (1, false), (2, false), (3, false), (4, false), (5, false), (6, false), (7, false), (8, false), (9, false), (10, false), (11, false), (12, false), (13, false), (14, false), (15, false), (16, false), (17, false), (18, false), (19, false), (20, false), (21, false), (22, false), (23, false), (24, false), (25, false), (26, false), (27, false), (28, false), (29, false), (30, false), (31, false), (32, false)] (fun wS => Below Wb.heap.size Wb wS) (by kernel_rfl) (by kernel_rfl) (by kernel_rfl) (Below.refl _ _).drew ?_
      repeat (first | (refine' flow2_pass (o := _) rfl _ _; (focus rfl); simp only [Act.put, List.setIfInBounds_toArray, List.set_cons_zero, List.set_cons_succ]) | (refine' flow2_take (v := _) (o := _) rfl _ _ _; rotate_left; (focus rfl); (focus (intro wS hS; have hE := Ext.refl wS; (obtain ⟨d0, d1, d2, d3⟩ := HCC.out wS hS; have j1 := J1.out); go_simp; try (with_reducible (first | exact ⟨rfl, hS, hE⟩ | rfl)); done)); simp only [Act.put, List.setIfInBounds_toArray, List.set_cons_zero, List.set_cons_succ]))
      refine flow2_nil ?_
      intro wT hE hS
      have HT := Lib.hid hS
      clear hE hS
      go_wp2_with fail
      go_ret
      exact ⟨true, rfl, fun h => (nomatch h), HB.out.trans (HT.out.mono HB.out.size)⟩
    · have J1 : Hid (decide ((60 : Int) < (n1 : Int)) = false) := Lib.hid (decide_eq_false (by omega))
      have J2 : Hid (decide ((60 : Int) < (n2 : Int)) = true) := Lib.hid (decide_eq_true (by omega))
      go_enter Tryz.func28, Tryz.ntmps28
      go_wp2_with fail
      rw [← HW.out]
      refine wp_region_flow2_lit [(0, false), (1, false), (2, false), (3, false), (4, false), (5, false), (6, false), (7, false), (8, false), (9, false), (10, false), (11, false), (12, false), (13, false), (14, false), (15, false), (16, false), (17, false), (18, false), (19, false), (20, false), (21, false), (22, false), (23, false), (24, false), (25, false), (26, false), (27, false), (28, false), (29, false), (30, false), (31, false), (32, false)] (fun wS => Below Wb.heap.size Wb wS) (by kernel_rfl) (by kernel_rfl) (by kernel_rfl) (Below.refl _ _).drew ?_
      repeat (first | (refine' flow2_pass (o := _) rfl _ _; (focus rfl); simp only [Act.put, List.setIfInBounds_toArray, List.set_cons_zero, List.set_cons_succ]) | (refine' flow2_take (v := _) (o := _) rfl _ _ _; rotate_left; (focus rfl); (focus (intro wS hS; have hE := Ext.refl wS; (obtain ⟨d0, d1, d2, d3⟩ := HCC.out wS hS; have j1 := J1.out; have j2 := J2.out); go_simp; try (with_reducible (first | exact ⟨rfl, hS, hE⟩ | rfl)); done)); simp only [Act.put, List.setIfInBounds_toArray, List.set_cons_zero, List.set_cons_succ]))
      refine flow2_nil ?_
      intro wT hE hS
      have HT := Lib.hid hS
      clear hE hS
      go_wp2_with fail
      go_ret
      exact ⟨true, rfl, fun h => (nomatch h), HB.out.trans (HT.out.mono HB.out.size)⟩
    · have J1 : Hid (decide ((60 : Int) < (n1 : Int)) = false) := Lib.hid (decide_eq_false (by omega))
      have J2 : Hid (decide ((60 : Int) < (n2 : Int)) = false) := Lib.hid (decide_eq_false (by omega))
      have J3 : Hid (decide ((60 : Int) < (n3 : Int)) = true) := Lib.hid (decide_eq_true (by omega))
      go_enter Tryz.func28, Tryz.ntmps28
      go_wp2_with fail
      rw [← HW.out]
      refine wp_region_flow2_lit [(0, false), (1, false), (2, false), (3, false), (4, false), (5, false), (6, false), (7, false), (8, false), (9, false), (10, false), (11, false), (12, false), (13, false), (14, false), (15, false), (16, false), (17, false), (18, false), (19, false), (20, false), (21, false), (22, false), (23, false), (24, false), (25, false), (26, false), (27, false), (28, false), (29, false), (30, false), (31, false), (32, false)] (fun wS => Below Wb.heap.size Wb wS) (by kernel_rfl) (by kernel_rfl) (by kernel_rfl) (Below.refl _ _).drew ?_
      repeat (first | (refine' flow2_pass (o := _) rfl _ _; (focus rfl); simp only [Act.put, List.setIfInBounds_toArray, List.set_cons_zero, List.set_cons_succ]) | (refine' flow2_take (v := _) (o := _) rfl _ _ _; rotate_left; (focus rfl); (focus (intro wS hS; have hE := Ext.refl wS; (obtain ⟨d0, d1, d2, d3⟩ := HCC.out wS hS; have j1 := J1.out; have j2 := J2.out; have j3 := J3.out); go_simp; try (with_reducible (first | exact ⟨rfl, hS, hE⟩ | rfl)); done)); simp only [Act.put, List.setIfInBounds_toArray, List.set_cons_zero, List.set_cons_succ]))
      refine flow2_nil ?_
      intro wT hE hS
      have HT := Lib.hid hS
      clear hE hS
      go_wp2_with fail
      go_ret
      exact ⟨true, rfl, fun h => (nomatch h), HB.out.trans (HT.out.mono HB.out.size)⟩
    · have J1 : Hid (decide ((60 : Int) < (n1 : Int)) = false) := Lib.hid (decide_eq_false (by omega))
      have J2 : Hid (decide ((60 : Int) < (n2 : Int)) = false) := Lib.hid (decide_eq_false (by omega))
      have J3 : Hid (decide ((60 : Int) < (n3 : Int)) = false) := Lib.hid (decide_eq_false (by omega))
      have J4 : Hid (decide ((60 : Int) < (n4 : Int)) = true) := Lib.hid (decide_eq_true (by omega))
      go_enter Tryz.func28, Tryz.ntmps28
      go_wp2_with fail
      rw [← HW.out]
      refine wp_region_flow2_lit [(0, false), (1, false), (2, false), (3, false), (4, false), (5, false), (6, false), (7, false), (8, false), (9, false), (10, false), (11, false), (12, false), (13, false), (14, false), (15, false), (16, false), (17, false), (18, false), (19, false), (20, false), (21, false), (22, false), (23, false), (24, false), (25, false), (26, false), (27, false), (28, false), (29, false), (30, false), (31, false), (32, false)] (fun wS => Below Wb.heap.size Wb wS) (by kernel_rfl) (by kernel_rfl) (by kernel_rfl) (Below.refl _ _).drew ?_
      repeat (first | (refine' flow2_pass (o := _) rfl _ _; (focus rfl); simp only [Act.put, List.setIfInBounds_toArray, List.set_cons_zero, List.set_cons_succ]) | (refine' flow2_take (v := _) (o := _) rfl _ _ _; rotate_left; (focus rfl); (focus (intro wS hS; have hE := Ext.refl wS; (obtain ⟨d0, d1, d2, d3⟩ := HCC.out wS hS; have j1 := J1.out; have j2 := J2.out; have j3 := J3.out; have j4 := J4.out); go_simp; try (with_reducible (first | exact ⟨rfl, hS, hE⟩ | rfl)); done)); simp only [Act.put, List.setIfInBounds_toArray, List.set_cons_zero, List.set_cons_succ]))
      refine flow2_nil ?_
      intro wT hE hS
      have HT := Lib.hid hS
      clear hE hS
      go_wp2_with fail
      go_ret
      exact ⟨true, rfl, fun h => (nomatch h), HB.out.trans (HT.out.mono HB.out.size)⟩
end Go.Proofs.YtokhnbdhcehonaaGreat.O
/- index: the walk of IndexChecks; a cache that came in. -/
namespace Go.Proofs.YtokhnbdhcehonaaGreat.O
open Go Go.RowKit Row Go.ChangeShapes Go.WideShapes Go.ChangeAt Go.Deep
set_option maxRecDepth 100000
/-- what holds of a cache that came in -/
structure Cok (c : Ca) : Prop where
  hu : ∀ x ∈ c.hs, UHd.kok x.up
  sl : ∀ x ∈ c.bs, UBl.kok x.sl
  ch : ∀ y ∈ chgC c, y.ok
def CkV (w : World) (r : Ending) (w' : World) : Prop := r = .returned (.bool true) ∧ Below w.heap.size w w'
set_option maxHeartbeats 16000000 in
theorem checks_walk {c : Ca} {cv : Cv} {w : World} (h : CaAt w cv c) (hok : Cok c) : Calls Tryz.prog 6 #[.agg (arr cv)] w (CkV w) := by
  obtain ⟨Wb, hW⟩ : ∃ Wb, Wb = w.alloc (.cells (arr cv) 30) := ⟨_, rfl⟩
  have hb0 : Below w.heap.size w Wb := by rw [hW]; exact bel_box
  have HX : Hid (Wb.heap[w.heap.size]? = some (.cells (arr cv) 30)) := Lib.hid (by rw [hW]; exact heap_alloc_new _ _)
  have HB := Lib.hid hb0
  have HCA := Lib.hid (h.below hb0)
  have HW := Lib.hid hW
  have HOK := Lib.hid hok
  have HLG := Lib.hid (rlarge_any (h.below hb0))
  clear h hb0 hW hok
  go_enter Tryz.func6, Tryz.ntmps6
  go_wp2_with (refine rw_load (α := Cv) rfl (.tmp 1) rfl w.heap.size 0 rfl cv (range_row (heap_alloc_new w (.cells (arr cv) (RowT.T Cv)))) ?_)
  rw [← HW.out]
  refine HLG.out.mono ?_
  rintro r w1 ⟨b, rfl, hfe, hb1⟩
  have HB1 := Lib.hid hb1
  cases b with
  | true =>
    clear hfe hb1
    go_wp2_with fail
    refine (kn_any _).mono ?_
    rintro r w2 ⟨rfl, hb2⟩
    have HB2 := Lib.hid (HB.out.trans ((HB1.out.trans (hb2.mono HB1.out.size)).mono HB.out.size))
    clear hb2
    go_wp2_with fail
    go_ret
    exact ⟨rfl, HB2.out⟩
  | false =>
  have HFE := Lib.hid ((hfe rfl).up (show 60 ≤ 100 by decide))
  have HC1 := Lib.hid (HCA.out.below hb1)
  have HX1 := Lib.hid ((hb1.block _ (heap_lt HX.out)).trans HX.out)
  have HCI := Lib.hid (fun wS (hS : Below w1.heap.size w1 wS) => icheck_any (HC1.out.below hS) HFE.out HOK.out.hu HOK.out.sl)
  have HCR := Lib.hid (fun wS (hS : Below w1.heap.size w1 wS) => rchk_any (HC1.out.below hS) HFE.out)
  have HEQ := Lib.hid (OkR.okc HOK.out.ch)
  clear hfe hb1
  go_wp2_with fail
  refine wp_region_flow2_lit [(0, false), (2, false), (1, true), (3, true), (4, false), (5, false), (6, false), (7, true), (8, false), (9, false)] (fun wS => Below w1.heap.size w1 wS) (by kernel_rfl) (by kernel_rfl) (by kernel_rfl) (Below.refl _ _).drew ?_
  (refine flow2_take (v := .agg (arr cv)) (o := _) rfl rfl (fun wS hS => gives_row rfl rfl (range_row ((hS.block _ (heap_lt HX1.out)).trans HX1.out)) ⟨hS, Ext.refl wS⟩) ?_; simp only [Act.put, List.setIfInBounds_toArray, List.set_cons_zero, List.set_cons_succ])
  (refine flow2_take (v := .agg (arr cv)) (o := _) rfl rfl (fun wS hS => gives_row rfl rfl (range_row ((hS.block _ (heap_lt HX1.out)).trans HX1.out)) ⟨hS, Ext.refl wS⟩) ?_; simp only [Act.put, List.setIfInBounds_toArray, List.set_cons_zero, List.set_cons_succ])
  refine flow2_turn (o := _) rfl rfl ?_
  intro wT hE hS K hK
  go_simp
  refine (HCI.out wT hS).mono ?_
  rintro e w2 ⟨b1, rfl, hi1, hb2⟩
  have HI1 := Lib.hid hi1
  have hS1 := hS.trans (hb2.mono hS.size)
  refine hK _ _ hS1 ?_
  clear hE hS hK K hb2 hi1 hS1
  simp only [Act.put, List.setIfInBounds_toArray, List.set_cons_zero, List.set_cons_succ]
  refine flow2_turn (o := _) rfl rfl ?_
  intro wU hE hS K hK
  go_simp
  refine (HCR.out wU hS).mono ?_
  rintro e w3 ⟨b2, rfl, hi2, hb3⟩
  have he : b2 = b1 := by
    rw [Bool.eq_iff_iff]
    exact (hi2.trans HEQ.out).trans HI1.out.symm
  subst he
  have hS1 := hS.trans (hb3.mono hS.size)
  refine hK _ _ hS1 ?_
  clear hE hS hK K hb3 hi2 hS1 HI1
  simp only [Act.put, List.setIfInBounds_toArray, List.set_cons_zero, List.set_cons_succ]
  have HFO : Hid (∀ W, Calls Tryz.prog 30 #[.bool b2] W fun r w' => r = .returned (.int .i64 (if b2 = true then 0 else 14)) ∧ Below W.heap.size W w') := Lib.hid (fun W => (formed_any b2 W).mono fun r w' ⟨h1, h2⟩ => ⟨h1, by subst h2; exact Below.refl _ _⟩)
  generalize hq : (if b2 = true then (0 : Int) else 14) = q at *
  clear hq
  (refine' flow2_take (v := _) (o := _) rfl _ _ _; rotate_left; (focus rfl); (focus (intro wS hS; go_simp; refine (HFO.out wS).mono ?_; rintro e w' ⟨rfl, hb⟩; refine ⟨?_, hS.trans (hb.mono hS.size), hb⟩; rfl)); simp only [Act.put, List.setIfInBounds_toArray, List.set_cons_zero, List.set_cons_succ])
  repeat (first | (refine' flow2_pass (o := _) rfl _ _; (focus rfl); simp only [Act.put, List.setIfInBounds_toArray, List.set_cons_zero, List.set_cons_succ]) | (refine' flow2_take (v := _) (o := _) rfl _ _ _; rotate_left; (focus rfl); (focus (intro wS hS; have hE := Ext.refl wS; (skip); go_simp; try (with_reducible (first | exact ⟨rfl, hS, hE⟩ | rfl)); done)); simp only [Act.put, List.setIfInBounds_toArray, List.set_cons_zero, List.set_cons_succ]))
  refine flow2_turn (o := _) rfl rfl ?_
  intro wV hE hS K hK
  go_simp
  refine (kn_any wV).mono ?_
  rintro e w4 ⟨rfl, hb4⟩
  have hS1 := hS.trans (hb4.mono hS.size)
  refine hK _ _ hS1 ?_
  clear hE hS hK K hb4 hS1
  simp only [Act.put, List.setIfInBounds_toArray, List.set_cons_zero, List.set_cons_succ]
  repeat (first | (refine' flow2_pass (o := _) rfl _ _; (focus rfl); simp only [Act.put, List.setIfInBounds_toArray, List.set_cons_zero, List.set_cons_succ]) | (refine' flow2_take (v := _) (o := _) rfl _ _ _; rotate_left; (focus rfl); (focus (intro wS hS; have hE := Ext.refl wS; (skip); go_simp; try (with_reducible (first | exact ⟨rfl, hS, hE⟩ | rfl)); done)); simp only [Act.put, List.setIfInBounds_toArray, List.set_cons_zero, List.set_cons_succ]))
  refine flow2_nil ?_
  intro wT2 hE hS
  have HT := Lib.hid (HB.out.trans ((HB1.out.trans (hS.mono HB1.out.size)).mono HB.out.size))
  clear hE hS
  go_wp2_with fail
  go_ret
  exact ⟨rfl, HT.out⟩
end Go.Proofs.YtokhnbdhcehonaaGreat.O
/- index: a cache that came in, opened. -/
namespace Go.Proofs.YtokhnbdhcehonaaGreat.O
open Go Go.RowKit Row Go.ChangeShapes Go.WideShapes Go.ChangeAt Go.Deep Go.Joins
set_option maxRecDepth 100000
section
variable {H : Type} {enc : TypeId × Value → H} {P : Program} {w : World} {base : Nat} {spare : Nat → Bool} {held : Bool}
theorem slice_rows2 {t e : TypeId} {d fuel : Nat} {ks : List Nat} {v : Value} {x : DataW H × List MemPlace} (ht : P.underlying t = some (.slice e)) (hk : flatKinds P d e = some ks) (hC : P.cellsOf e = ks.length) (hpos : 0 < ks.length)
    (hf : DataW.trod enc P w base spare held fuel t [v] = some x) :
    ∃ (A : Option Addr) (L : List (List Value)) (cap : Nat), v = .slice A L.length cap ∧ L.length ≤ cap ∧ cap ≤ maxLen ∧ (∀ (i : Nat) (h : i < L.length), Typed ks L[i]) ∧ RowsAt w A ks.length L := by
  rcases open_slice ht hf with ⟨h0, _⟩ | ⟨a, len, cap, m, n, D, Pl, hcs, hb, hl, hm, hmm, _, hi⟩
  · have : v = .slice none 0 0 := by simpa using h0
    subst this
    exact ⟨none, [], 0, rfl, Nat.le_refl _, Nat.zero_le _, fun i h => absurd h (Nat.not_lt_zero _), fun h => absurd h (Nat.lt_irrefl 0)⟩
  · have : v = .slice (some a) len cap := by simpa using hcs
    subst this
    have hlm : len ≤ m := by rw [hmm]; split <;> omega
    obtain ⟨L, hL, hp⟩ := choose_list (p := fun i row => Typed ks row ∧ ∀ j v, row[j]? = some v → w.cell? ((a.add (i * ks.length)).add j) = some v) len fun i hlt => by
      obtain ⟨cs, hcells, htr⟩ := hi i (by omega)
      obtain ⟨_, hlen, hat⟩ := World.cells?_some hcells
      refine ⟨cs, typed_of_trod d e ks _ cs _ hk htr, fun j v hj => ?_⟩
      have hjl : j < cs.length := (List.getElem?_eq_some_iff.1 hj).1
      rw [hC] at hat
      rw [hat j (by omega)]; exact hj
    subst hL
    refine ⟨some a, L, cap, rfl, hl, hm, fun i h => (hp i h).1, fun h0 => ?_⟩
    have h1 := (hp 0 h0).2
    have hl0 := (hp 0 h0).1.length
    obtain ⟨u, hu⟩ : ∃ u, (L[0])[0]? = some u := ⟨(L[0])[0]'(by omega), List.getElem?_eq_getElem (by omega)⟩
    have hc0 := h1 0 u hu
    have e0 : (a.add (0 * ks.length)).add 0 = a := by simp [Addr.add]
    rw [e0] at hc0
    obtain ⟨hlt, hsp⟩ := cell_lt hc0
    obtain ⟨b, off, s⟩ := a
    simp only at hsp
    subst hsp
    refine ⟨b, off, rfl, hlt, fun i hi j v hj => ?_⟩
    have := (hp i hi).2 j v hj
    rw [add_plain (a := ⟨b, off, none⟩) rfl, add_plain (a := ⟨b, off + i * ks.length, none⟩) rfl] at this
    exact this
end
def kH3 : List Nat := [2, 2, 1]
def kF11 : List Nat := [1, 2, 2, 2, 2, 2, 2, 2, 2, 2, 2]
def kN3 : List Nat := [1, 1, 1]
def kB3 : List Nat := [1, 2, 2]
theorem j1s {v : Value} (h : leafOk 1 v) : ∃ n, v = .string n ∧ n.size ≤ maxLen := by
  cases v <;> simp [leafOk] at h
  exact ⟨_, rfl, h⟩
theorem hd_typed : ∀ {vs : List Value}, Typed kH3 vs → ∃ x : Hd, vs = cells x ∧ (i64 x.s ∧ x.up.size ≤ maxLen)
  | [v0, v1, v2], ⟨h0, h1, h2, _⟩ => by
    obtain ⟨e, rfl, _⟩ := j2 h0
    obtain ⟨s, rfl, hs⟩ := j2 h1
    obtain ⟨u, rfl, hu⟩ := j1s h2
    exact ⟨⟨e, s, u⟩, rfl, hs, hu⟩
theorem fl_typed : ∀ {vs : List Value}, Typed kF11 vs → ∃ x : Fl, vs = cells x ∧ (i64 x.a.z ∧ i64 x.a.e ∧ i64 x.a.c ∧ i64 x.a.i)
  | [v0, v1, v2, v3, v4, v5, v6, v7, v8, v9, v10], ⟨h0, h1, h2, h3, h4, h5, h6, h7, h8, h9, h10, _⟩ => by
    obtain ⟨u, rfl⟩ := j1 h0
    obtain ⟨a0, rfl, _⟩ := j2 h1
    obtain ⟨a1, rfl, _⟩ := j2 h2
    obtain ⟨a2, rfl, _⟩ := j2 h3
    obtain ⟨a3, rfl, _⟩ := j2 h4
    obtain ⟨a4, rfl, _⟩ := j2 h5
    obtain ⟨a5, rfl, w5⟩ := j2 h6
    obtain ⟨a6, rfl, _⟩ := j2 h7
    obtain ⟨a7, rfl, w7⟩ := j2 h8
    obtain ⟨a8, rfl, w8⟩ := j2 h9
    obtain ⟨a9, rfl, w9⟩ := j2 h10
    exact ⟨⟨u, ⟨a0, a1, a2, a3, a4, a5, a6, a7, a8, a9⟩⟩, rfl, w5, w7, w8, w9⟩
theorem nm_typed : ∀ {vs : List Value}, Typed kN3 vs → ∃ x : Nm, vs = cells x ∧ True
  | [v0, v1, v2], ⟨h0, h1, h2, _⟩ => by
    obtain ⟨d, rfl⟩ := j1 h0
    obtain ⟨n, rfl⟩ := j1 h1
    obtain ⟨u, rfl⟩ := j1 h2
    exact ⟨⟨d, n, u⟩, rfl, trivial⟩
theorem bl_typed : ∀ {vs : List Value}, Typed kB3 vs → ∃ x : Bl, vs = cells x ∧ i64 x.sl
  | [v0, v1, v2], ⟨h0, h1, h2, _⟩ => by
    obtain ⟨u, rfl⟩ := j1 h0
    obtain ⟨m, rfl, _⟩ := j2 h1
    obtain ⟨s, rfl, hs⟩ := j2 h2
    exact ⟨⟨u, m, s⟩, rfl, hs⟩
theorem rows_of {α : Type} [Row α] {ks : List Nat} {p : α → Prop} (hx : ∀ {vs : List Value}, Typed ks vs → ∃ x : α, vs = cells x ∧ p x) (R : List (List Value)) (h : ∀ (i : Nat) (hi : i < R.length), Typed ks R[i]) : ∃ L : List α, R = L.map cells ∧ ∀ x ∈ L, p x := by
  induction R with
  | nil => exact ⟨[], rfl, by simp⟩
  | cons r R ih =>
    obtain ⟨L, rfl, hL⟩ := ih fun i hi => h (i + 1) (by simpa using hi)
    obtain ⟨x, hx, hb⟩ := hx (h 0 (by simp))
    exact ⟨x :: L, by simp [← hx], by simpa using ⟨hb, hL⟩⟩
theorem ro_at {α : Type} [Row α] {w : World} {A : Option Addr} {L : List α} {cap : Nat} (hc : L.length ≤ cap) (hm : cap ≤ maxLen) (h : RowsAt w A (n α) (L.map cells)) : Ro w (.slice A L.length cap) L :=
  ⟨⟨A, cap, rfl, hc, hm⟩, fun hp => by
    obtain ⟨b, off, rfl, hlt, hr⟩ := h (by simpa using hp)
    refine ⟨b, off, cap, rfl, hlt, fun k hk j v hj => ?_⟩
    have := hr k (by simpa using hk) j v (by simpa using hj)
    exact this⟩
theorem i64_0 : i64 0 := by unfold i64; rfl
theorem cok_of {c : Ca} (hh : ∀ x ∈ c.hs, i64 x.s ∧ x.up.size ≤ maxLen) (hf : ∀ x ∈ c.fs, i64 x.a.z ∧ i64 x.a.e ∧ i64 x.a.c ∧ i64 x.a.i) (hb : ∀ x ∈ c.bs, i64 x.sl) : Cok c := by
  refine ⟨fun x hx => (hh x hx).2, fun x hx => hb x hx, fun y hy => ?_⟩
  simp only [chgC, List.mem_append, List.mem_map] at hy
  rcases hy with ((⟨x, hx, rfl⟩ | ⟨x, hx, rfl⟩) | ⟨x, hx, rfl⟩) | ⟨x, hx, rfl⟩
  · exact ⟨(hh x hx).1, i64_0, i64_0, i64_0, i64_0⟩
  · obtain ⟨h1, h2, h3, h4⟩ := hf x hx
    exact ⟨i64_0, h1, h2, h3, h4⟩
  · exact ⟨i64_0, i64_0, i64_0, i64_0, i64_0⟩
  · exact ⟨i64_0, i64_0, i64_0, i64_0, i64_0⟩
theorem checks_all {w : World} {A1 A2 A3 A4 : Option Addr} {L1 : List Hd} {L2 : List Fl} {L3 : List Nm} {L4 : List Bl} {k1 k2 k3 k4 : Nat} (a1 : L1.length ≤ k1) (b1 : k1 ≤ maxLen) (a2 : L2.length ≤ k2) (b2 : k2 ≤ maxLen) (a3 : L3.length ≤ k3) (b3 : k3 ≤ maxLen) (a4 : L4.length ≤ k4) (b4 : k4 ≤ maxLen)
    (h1 : RowsAt w A1 3 (L1.map cells)) (h2 : RowsAt w A2 11 (L2.map cells)) (h3 : RowsAt w A3 3 (L3.map cells)) (h4 : RowsAt w A4 3 (L4.map cells))
    (hh : ∀ x ∈ L1, i64 x.s ∧ x.up.size ≤ maxLen) (hf : ∀ x ∈ L2, i64 x.a.z ∧ i64 x.a.e ∧ i64 x.a.c ∧ i64 x.a.i) (hb : ∀ x ∈ L4, i64 x.sl) :
    Calls Tryz.prog 6 #[.agg #[.slice A1 L1.length k1, .slice A2 L2.length k2, .slice A3 L3.length k3, .slice A4 L4.length k4]] w fun e w' => e = .returned (.bool true) ∧ Below w.heap.size w w' :=
  checks_walk (c := ⟨L1, L2, L3, L4⟩) (cv := ⟨⟨A1, L1.length, k1⟩, ⟨A2, L2.length, k2⟩, ⟨A3, L3.length, k3⟩, ⟨A4, L4.length, k4⟩⟩) ⟨ro_at a1 b1 h1, ro_at a2 b2 h2, ro_at a3 b3 h3, ro_at a4 b4 h4⟩ (cok_of hh hf hb)
end Go.Proofs.YtokhnbdhcehonaaGreat.O
