/- index: slices.BinarySearchFunc (printed by gen_bs.py). -/
import Derived.Test.YtokhnbdhcehonaaGreatRowk
set_option linter.unusedSimpArgs false
set_option linter.unusedVariables false
namespace Go.Proofs.YtokhnbdhcehonaaGreat
open Go Go.RowKit Row
set_option maxRecDepth 100000
set_option maxHeartbeats 8000000 in
theorem bs_Hd {l : List Hd} {v : Value} {B : Nat} {w : World} (x : Hd) (hs : Srt kH lH l) (h : Rs w B v l) :
    Calls Tryz.prog 89 #[v, .agg (arr x), .func (.func 40) #[] #[]] w fun e w' => ∃ i : Nat, e = .returned (.tuple #[.int .i64 i, .bool (find kH l (kH x)).isSome]) ∧ Cut kH lH l (kH x) i ∧ Below w.heap.size w w' := by
  obtain ⟨A, cap, rfl, hlc, hcap⟩ := h.any
  obtain ⟨r, hfr⟩ : ∃ r, r = (find kH l (kH x)).isSome := ⟨_, rfl⟩
  rw [← hfr]
  have HFR := Lib.hid hfr
  clear hfr
  obtain ⟨W, hW⟩ : ∃ W, W = w.alloc (.cells (arr x) 40) := ⟨_, rfl⟩
  have hr : Rs W B (.slice A l.length cap) l := by rw [hW]; exact h.below (by go_grown)
  have hx : W.heap[w.heap.size]? = some (.cells (arr x) 40) := by rw [hW]; exact heap_alloc_new _ _
  have HB : Hid (Below w.heap.size w W) := Lib.hid (by rw [hW]; go_grown)
  have HS := Lib.hid hs
  have HR := Lib.hid hr
  have HX := Lib.hid hx
  have HW := Lib.hid hW
  clear hs hr hx hW h
  go_enter Tryz.func89, Tryz.ntmps89
  go_wp2_with fail
  rw [← HW.out]
  go_loopw [9, 10] (fun si sj wq => ∃ i j : Nat, si = .int .i64 i ∧ sj = .int .i64 j ∧ i ≤ j ∧ j ≤ l.length ∧ (∀ y ∈ l.take i, lH (kH y) (kH x) = true) ∧ (∀ y ∈ l.drop j, lH (kH y) (kH x) = false) ∧ Below W.heap.size W wq) (fun si sj _ => (intOf sj - intOf si).toNat)
  case atStart => exact ⟨0, l.length, rfl, rfl, by omega, by omega, fun y hy => by simp at hy, fun y hy => by simp at hy, Below.refl _ _⟩
  case round =>
    obtain ⟨i, j, rfl, rfl, hij, hjl, hlo, hhi, hbq⟩ := hrel
    have HQ := Lib.hid hbq
    have HI := Lib.hid (And.intro hlo hhi)
    clear hbq hlo hhi
    by_cases hlt : i < j
    · have hltI : (i : Int) < (j : Int) := by omega
      obtain ⟨m, hm⟩ : ∃ m : Nat, m = (i + j) / 2 := ⟨_, rfl⟩
      have HMW : Hid (wrap64 (IntKind.u64.wrap (wrap64 ((i : Int) + (j : Int))) / 2) = (m : Int)) := Lib.hid (by rw [mid_num (by omega) (by have : maxLen = 9223372036854775807 := rfl; omega)]; omega)
      have hml : m < l.length := by omega
      have hmb : i ≤ m ∧ m < j := by omega
      clear hm
      obtain ⟨b, off, cap', he, _, _⟩ := HR.out.shape (by omega)
      cases he
      have HE := Lib.hid (And.intro (HR.out.range hml) (show b < W.heap.size from HR.out.lt b rfl))
      have hmlI : (m : Int) < (l.length : Int) := by omega
      go_wp2_with fail
      rw [HMW.out]
      refine wp_region_flow2_lit [(0, false), (1, false), (2, false), (3, false), (4, false), (5, false), (6, false), (7, false)] (fun wS => Below W.heap.size W wS) (by kernel_rfl) (by kernel_rfl) (by kernel_rfl) HQ.out.drew ?_
      repeat (first | (refine' flow2_pass (o := _) rfl _ _; (focus rfl); simp only [Act.put, List.setIfInBounds_toArray, List.set_cons_zero, List.set_cons_succ]) | (refine' flow2_take (v := _) (o := _) rfl _ _ _; rotate_left; (focus rfl); (focus (intro wS hS; have hE := Ext.refl wS; (skip); go_simp; try (with_reducible (first | exact ⟨rfl, hS, hE⟩ | rfl)); done)); simp only [Act.put, List.setIfInBounds_toArray, List.set_cons_zero, List.set_cons_succ]))
      (refine flow2_take (v := .agg (arr l[m])) (o := _) rfl rfl (fun wS hS => gives_row rfl rfl (rangeAt_below HE.out.1 HE.out.2 hS) ⟨hS, Ext.refl wS⟩) ?_; simp only [Act.put, List.setIfInBounds_toArray, List.set_cons_zero, List.set_cons_succ])
      (refine flow2_take (v := .agg (arr x)) (o := _) rfl rfl (fun wS hS => gives_row rfl rfl (range_row ((hS.block _ (heap_lt HX.out)).trans HX.out)) ⟨hS, Ext.refl wS⟩) ?_; simp only [Act.put, List.setIfInBounds_toArray, List.set_cons_zero, List.set_cons_succ])
      (refine' flow2_take (v := _) (o := _) rfl _ _ _; rotate_left; (focus rfl); (focus (intro wS hS; go_simp; refine (held_any _ _ _).mono ?_; rintro e w' ⟨rfl, hb⟩; refine ⟨?_, hS.trans (hb.mono hS.size), hb⟩; rfl)); simp only [Act.put, List.setIfInBounds_toArray, List.set_cons_zero, List.set_cons_succ])
      repeat (first | (refine' flow2_pass (o := _) rfl _ _; (focus rfl); simp only [Act.put, List.setIfInBounds_toArray, List.set_cons_zero, List.set_cons_succ]) | (refine' flow2_take (v := _) (o := _) rfl _ _ _; rotate_left; (focus rfl); (focus (intro wS hS; have hE := Ext.refl wS; (skip); go_simp; try (with_reducible (first | exact ⟨rfl, hS, hE⟩ | rfl)); done)); simp only [Act.put, List.setIfInBounds_toArray, List.set_cons_zero, List.set_cons_succ]))
      refine flow2_nil ?_
      intro wT hE hS
      have HT := Lib.hid hS
      clear hE hS
      have H3 := Lib.hid (c3_neg (lt := lH) (kH l[m]) (kH x))
      have hm63 : wrap64 ((m : Int) + 1) = (m : Int) + 1 := IntWalk.wrap64_in _ (by have : maxLen = 9223372036854775807 := rfl; omega)
      have HM1 : Hid (((intOf (.int .i64 (j : Int)) - intOf (.int .i64 (wrap64 ((m : Int) + 1)))).toNat < (intOf (.int .i64 (j : Int)) - intOf (.int .i64 (i : Int))).toNat)) := Lib.hid (by
        rw [hm63]
        show ((j : Int) - ((m : Int) + 1)).toNat < ((j : Int) - (i : Int)).toNat
        omega)
      have HM3 := Lib.hid hm63
      clear hm63
      cases hlt2 : lH (kH l[m]) (kH x) with
      | true =>
        have h3 : c3 lH (kH l[m]) (kH x) < 0 := of_decide_eq_true (H3.out.trans hlt2)
        have HL2 := Lib.hid hlt2
        clear hlt2
        go_wp2_with fail
        go_roundw
        case rel => exact ⟨m + 1, j, by rw [HM3.out]; rfl, rfl, by omega, hjl, cut_lo lH_lin HS.out hml HL2.out, HI.out.2, HT.out⟩
        case measure => exact HM1.out
      | false =>
        have h3 : ¬ c3 lH (kH l[m]) (kH x) < 0 := of_decide_eq_false (H3.out.trans hlt2)
        have HL2 := Lib.hid hlt2
        clear hlt2
        go_wp2_with fail
        go_roundw
        case rel => exact ⟨i, m, rfl, rfl, by omega, by omega, HI.out.1, cut_hi lH_lin HS.out hml HL2.out, HT.out⟩
        case measure => simp [intOf]; omega
    · obtain rfl : j = i := by omega
      have hltI : ¬ (j : Int) < (j : Int) := by omega
      have HC : Hid (Cut kH lH l (kH x) j) := Lib.hid ⟨hjl, HI.out.1, HI.out.2⟩
      have HF := Lib.hid (HC.out.findEq lH_lin HS.out)
      by_cases hn : j < l.length
      · have hnI : (j : Int) < (l.length : Int) := by omega
        obtain ⟨b, off, cap', he, _, _⟩ := HR.out.shape (by omega)
        cases he
        have HE := Lib.hid (And.intro (HR.out.range hn) (show b < W.heap.size from HR.out.lt b rfl))
        have hf : (find kH l (kH x)).isSome = decide (kH l[j] = kH x) := by
          rw [HF.out, dif_pos hn]
          by_cases e : kH l[j] = kH x
          · rw [if_pos e, decide_eq_true e]; rfl
          · rw [if_neg e, decide_eq_false e]; rfl
        have h0 := c3_zero lH_lin (kH l[j]) (kH x)
        rw [← hf, ← HFR.out] at h0
        clear hf
        go_wp2_with fail
        refine wp_region_flow2_lit [(0, false), (1, false), (2, false), (3, false), (4, false), (5, false), (6, false), (7, false), (8, false), (9, false), (10, false), (11, false), (12, false), (13, false), (14, false), (15, false)] (fun wS => Below W.heap.size W wS) (by kernel_rfl) (by kernel_rfl) (by kernel_rfl) HQ.out.drew ?_
        repeat (first | (refine' flow2_pass (o := _) rfl _ _; (focus rfl); simp only [Act.put, List.setIfInBounds_toArray, List.set_cons_zero, List.set_cons_succ]) | (refine' flow2_take (v := _) (o := _) rfl _ _ _; rotate_left; (focus rfl); (focus (intro wS hS; have hE := Ext.refl wS; (skip); go_simp; try (with_reducible (first | exact ⟨rfl, hS, hE⟩ | rfl)); done)); simp only [Act.put, List.setIfInBounds_toArray, List.set_cons_zero, List.set_cons_succ]))
        (refine flow2_take (v := .agg (arr l[j])) (o := _) rfl rfl (fun wS hS => gives_row rfl rfl (rangeAt_below HE.out.1 HE.out.2 hS) ⟨hS, Ext.refl wS⟩) ?_; simp only [Act.put, List.setIfInBounds_toArray, List.set_cons_zero, List.set_cons_succ])
        (refine flow2_take (v := .agg (arr x)) (o := _) rfl rfl (fun wS hS => gives_row rfl rfl (range_row ((hS.block _ (heap_lt HX.out)).trans HX.out)) ⟨hS, Ext.refl wS⟩) ?_; simp only [Act.put, List.setIfInBounds_toArray, List.set_cons_zero, List.set_cons_succ])
        (refine' flow2_take (v := _) (o := _) rfl _ _ _; rotate_left; (focus rfl); (focus (intro wS hS; go_simp; refine (held_any _ _ _).mono ?_; rintro e w' ⟨rfl, hb⟩; refine ⟨?_, hS.trans (hb.mono hS.size), hb⟩; rfl)); simp only [Act.put, List.setIfInBounds_toArray, List.set_cons_zero, List.set_cons_succ])
        repeat (first | (refine' flow2_pass (o := _) rfl _ _; (focus rfl); simp only [Act.put, List.setIfInBounds_toArray, List.set_cons_zero, List.set_cons_succ]) | (refine' flow2_take (v := _) (o := _) rfl _ _ _; rotate_left; (focus rfl); (focus (intro wS hS; have hE := Ext.refl wS; (skip); go_simp; try (with_reducible (first | exact ⟨rfl, hS, hE⟩ | rfl)); done)); simp only [Act.put, List.setIfInBounds_toArray, List.set_cons_zero, List.set_cons_succ]))
        refine flow2_nil ?_
        intro wT hE hS
        have HT := Lib.hid hS
        clear hE hS
        go_wp2_with fail
        go_returns
        exact ⟨j, rfl, HC.out, HB.out.trans (HT.out.mono HB.out.size)⟩
      · have hnI : ¬ (j : Int) < (l.length : Int) := by omega
        have hf : (find kH l (kH x)).isSome = false := by rw [HF.out, dif_neg hn]; rfl
        obtain rfl : r = false := HFR.out.trans hf
        clear hf
        go_wp2_with fail
        refine wp_region_flow2_lit [(0, false), (1, false), (2, false), (3, false), (4, false), (5, false), (6, false), (7, false), (8, false), (9, false), (10, false), (11, false), (12, false), (13, false), (14, false), (15, false)] (fun wS => Below W.heap.size W wS) (by kernel_rfl) (by kernel_rfl) (by kernel_rfl) HQ.out.drew ?_
        repeat (first | (refine' flow2_pass (o := _) rfl _ _; (focus rfl); simp only [Act.put, List.setIfInBounds_toArray, List.set_cons_zero, List.set_cons_succ]) | (refine' flow2_take (v := _) (o := _) rfl _ _ _; rotate_left; (focus rfl); (focus (intro wS hS; have hE := Ext.refl wS; (skip); go_simp; try (with_reducible (first | exact ⟨rfl, hS, hE⟩ | rfl)); done)); simp only [Act.put, List.setIfInBounds_toArray, List.set_cons_zero, List.set_cons_succ]))
        refine flow2_nil ?_
        intro wT hE hS
        have HT := Lib.hid hS
        clear hE hS
        go_wp2_with fail
        go_returns
        exact ⟨j, rfl, HC.out, HB.out.trans (HT.out.mono HB.out.size)⟩
set_option maxHeartbeats 8000000 in
theorem bs_Fl {l : List Fl} {v : Value} {B : Nat} {w : World} (x : Fl) (hs : Srt kF lF l) (h : Rs w B v l) :
    Calls Tryz.prog 92 #[v, .agg (arr x), .func (.func 43) #[] #[]] w fun e w' => ∃ i : Nat, e = .returned (.tuple #[.int .i64 i, .bool (find kF l (kF x)).isSome]) ∧ Cut kF lF l (kF x) i ∧ Below w.heap.size w w' := by
  obtain ⟨A, cap, rfl, hlc, hcap⟩ := h.any
  obtain ⟨r, hfr⟩ : ∃ r, r = (find kF l (kF x)).isSome := ⟨_, rfl⟩
  rw [← hfr]
  have HFR := Lib.hid hfr
  clear hfr
  obtain ⟨W, hW⟩ : ∃ W, W = w.alloc (.cells (arr x) 50) := ⟨_, rfl⟩
  have hr : Rs W B (.slice A l.length cap) l := by rw [hW]; exact h.below (by go_grown)
  have hx : W.heap[w.heap.size]? = some (.cells (arr x) 50) := by rw [hW]; exact heap_alloc_new _ _
  have HB : Hid (Below w.heap.size w W) := Lib.hid (by rw [hW]; go_grown)
  have HS := Lib.hid hs
  have HR := Lib.hid hr
  have HX := Lib.hid hx
  have HW := Lib.hid hW
  clear hs hr hx hW h
  go_enter Tryz.func92, Tryz.ntmps92
  go_wp2_with fail
  rw [← HW.out]
  go_loopw [9, 10] (fun si sj wq => ∃ i j : Nat, si = .int .i64 i ∧ sj = .int .i64 j ∧ i ≤ j ∧ j ≤ l.length ∧ (∀ y ∈ l.take i, lF (kF y) (kF x) = true) ∧ (∀ y ∈ l.drop j, lF (kF y) (kF x) = false) ∧ Below W.heap.size W wq) (fun si sj _ => (intOf sj - intOf si).toNat)
  case atStart => exact ⟨0, l.length, rfl, rfl, by omega, by omega, fun y hy => by simp at hy, fun y hy => by simp at hy, Below.refl _ _⟩
  case round =>
    obtain ⟨i, j, rfl, rfl, hij, hjl, hlo, hhi, hbq⟩ := hrel
    have HQ := Lib.hid hbq
    have HI := Lib.hid (And.intro hlo hhi)
    clear hbq hlo hhi
    by_cases hlt : i < j
    · have hltI : (i : Int) < (j : Int) := by omega
      obtain ⟨m, hm⟩ : ∃ m : Nat, m = (i + j) / 2 := ⟨_, rfl⟩
      have HMW : Hid (wrap64 (IntKind.u64.wrap (wrap64 ((i : Int) + (j : Int))) / 2) = (m : Int)) := Lib.hid (by rw [mid_num (by omega) (by have : maxLen = 9223372036854775807 := rfl; omega)]; omega)
      have hml : m < l.length := by omega
      have hmb : i ≤ m ∧ m < j := by omega
      clear hm
      obtain ⟨b, off, cap', he, _, _⟩ := HR.out.shape (by omega)
      cases he
      have HE := Lib.hid (And.intro (HR.out.range hml) (show b < W.heap.size from HR.out.lt b rfl))
      have hmlI : (m : Int) < (l.length : Int) := by omega
      go_wp2_with fail
      rw [HMW.out]
      refine wp_region_flow2_lit [(0, false), (1, false), (2, false), (3, false), (4, false), (5, false), (6, false), (7, false)] (fun wS => Below W.heap.size W wS) (by kernel_rfl) (by kernel_rfl) (by kernel_rfl) HQ.out.drew ?_
      repeat (first | (refine' flow2_pass (o := _) rfl _ _; (focus rfl); simp only [Act.put, List.setIfInBounds_toArray, List.set_cons_zero, List.set_cons_succ]) | (refine' flow2_take (v := _) (o := _) rfl _ _ _; rotate_left; (focus rfl); (focus (intro wS hS; have hE := Ext.refl wS; (skip); go_simp; try (with_reducible (first | exact ⟨rfl, hS, hE⟩ | rfl)); done)); simp only [Act.put, List.setIfInBounds_toArray, List.set_cons_zero, List.set_cons_succ]))
      (refine flow2_take (v := .agg (arr l[m])) (o := _) rfl rfl (fun wS hS => gives_row rfl rfl (rangeAt_below HE.out.1 HE.out.2 hS) ⟨hS, Ext.refl wS⟩) ?_; simp only [Act.put, List.setIfInBounds_toArray, List.set_cons_zero, List.set_cons_succ])
      (refine flow2_take (v := .agg (arr x)) (o := _) rfl rfl (fun wS hS => gives_row rfl rfl (range_row ((hS.block _ (heap_lt HX.out)).trans HX.out)) ⟨hS, Ext.refl wS⟩) ?_; simp only [Act.put, List.setIfInBounds_toArray, List.set_cons_zero, List.set_cons_succ])
      (refine' flow2_take (v := _) (o := _) rfl _ _ _; rotate_left; (focus rfl); (focus (intro wS hS; go_simp; refine (cached_any _ _ _).mono ?_; rintro e w' ⟨rfl, hb⟩; refine ⟨?_, hS.trans (hb.mono hS.size), hb⟩; rfl)); simp only [Act.put, List.setIfInBounds_toArray, List.set_cons_zero, List.set_cons_succ])
      repeat (first | (refine' flow2_pass (o := _) rfl _ _; (focus rfl); simp only [Act.put, List.setIfInBounds_toArray, List.set_cons_zero, List.set_cons_succ]) | (refine' flow2_take (v := _) (o := _) rfl _ _ _; rotate_left; (focus rfl); (focus (intro wS hS; have hE := Ext.refl wS; (skip); go_simp; try (with_reducible (first | exact ⟨rfl, hS, hE⟩ | rfl)); done)); simp only [Act.put, List.setIfInBounds_toArray, List.set_cons_zero, List.set_cons_succ]))
      refine flow2_nil ?_
      intro wT hE hS
      have HT := Lib.hid hS
      clear hE hS
      have H3 := Lib.hid (c3_neg (lt := lF) (kF l[m]) (kF x))
      have hm63 : wrap64 ((m : Int) + 1) = (m : Int) + 1 := IntWalk.wrap64_in _ (by have : maxLen = 9223372036854775807 := rfl; omega)
      have HM1 : Hid (((intOf (.int .i64 (j : Int)) - intOf (.int .i64 (wrap64 ((m : Int) + 1)))).toNat < (intOf (.int .i64 (j : Int)) - intOf (.int .i64 (i : Int))).toNat)) := Lib.hid (by
        rw [hm63]
        show ((j : Int) - ((m : Int) + 1)).toNat < ((j : Int) - (i : Int)).toNat
        omega)
      have HM3 := Lib.hid hm63
      clear hm63
      cases hlt2 : lF (kF l[m]) (kF x) with
      | true =>
        have h3 : c3 lF (kF l[m]) (kF x) < 0 := of_decide_eq_true (H3.out.trans hlt2)
        have HL2 := Lib.hid hlt2
        clear hlt2
        go_wp2_with fail
        go_roundw
        case rel => exact ⟨m + 1, j, by rw [HM3.out]; rfl, rfl, by omega, hjl, cut_lo lF_lin HS.out hml HL2.out, HI.out.2, HT.out⟩
        case measure => exact HM1.out
      | false =>
        have h3 : ¬ c3 lF (kF l[m]) (kF x) < 0 := of_decide_eq_false (H3.out.trans hlt2)
        have HL2 := Lib.hid hlt2
        clear hlt2
        go_wp2_with fail
        go_roundw
        case rel => exact ⟨i, m, rfl, rfl, by omega, by omega, HI.out.1, cut_hi lF_lin HS.out hml HL2.out, HT.out⟩
        case measure => simp [intOf]; omega
    · obtain rfl : j = i := by omega
      have hltI : ¬ (j : Int) < (j : Int) := by omega
      have HC : Hid (Cut kF lF l (kF x) j) := Lib.hid ⟨hjl, HI.out.1, HI.out.2⟩
      have HF := Lib.hid (HC.out.findEq lF_lin HS.out)
      by_cases hn : j < l.length
      · have hnI : (j : Int) < (l.length : Int) := by omega
        obtain ⟨b, off, cap', he, _, _⟩ := HR.out.shape (by omega)
        cases he
        have HE := Lib.hid (And.intro (HR.out.range hn) (show b < W.heap.size from HR.out.lt b rfl))
        have hf : (find kF l (kF x)).isSome = decide (kF l[j] = kF x) := by
          rw [HF.out, dif_pos hn]
          by_cases e : kF l[j] = kF x
          · rw [if_pos e, decide_eq_true e]; rfl
          · rw [if_neg e, decide_eq_false e]; rfl
        have h0 := c3_zero lF_lin (kF l[j]) (kF x)
        rw [← hf, ← HFR.out] at h0
        clear hf
        go_wp2_with fail
        refine wp_region_flow2_lit [(0, false), (1, false), (2, false), (3, false), (4, false), (5, false), (6, false), (7, false), (8, false), (9, false), (10, false), (11, false), (12, false), (13, false), (14, false), (15, false)] (fun wS => Below W.heap.size W wS) (by kernel_rfl) (by kernel_rfl) (by kernel_rfl) HQ.out.drew ?_
        repeat (first | (refine' flow2_pass (o := _) rfl _ _; (focus rfl); simp only [Act.put, List.setIfInBounds_toArray, List.set_cons_zero, List.set_cons_succ]) | (refine' flow2_take (v := _) (o := _) rfl _ _ _; rotate_left; (focus rfl); (focus (intro wS hS; have hE := Ext.refl wS; (skip); go_simp; try (with_reducible (first | exact ⟨rfl, hS, hE⟩ | rfl)); done)); simp only [Act.put, List.setIfInBounds_toArray, List.set_cons_zero, List.set_cons_succ]))
        (refine flow2_take (v := .agg (arr l[j])) (o := _) rfl rfl (fun wS hS => gives_row rfl rfl (rangeAt_below HE.out.1 HE.out.2 hS) ⟨hS, Ext.refl wS⟩) ?_; simp only [Act.put, List.setIfInBounds_toArray, List.set_cons_zero, List.set_cons_succ])
        (refine flow2_take (v := .agg (arr x)) (o := _) rfl rfl (fun wS hS => gives_row rfl rfl (range_row ((hS.block _ (heap_lt HX.out)).trans HX.out)) ⟨hS, Ext.refl wS⟩) ?_; simp only [Act.put, List.setIfInBounds_toArray, List.set_cons_zero, List.set_cons_succ])
        (refine' flow2_take (v := _) (o := _) rfl _ _ _; rotate_left; (focus rfl); (focus (intro wS hS; go_simp; refine (cached_any _ _ _).mono ?_; rintro e w' ⟨rfl, hb⟩; refine ⟨?_, hS.trans (hb.mono hS.size), hb⟩; rfl)); simp only [Act.put, List.setIfInBounds_toArray, List.set_cons_zero, List.set_cons_succ])
        repeat (first | (refine' flow2_pass (o := _) rfl _ _; (focus rfl); simp only [Act.put, List.setIfInBounds_toArray, List.set_cons_zero, List.set_cons_succ]) | (refine' flow2_take (v := _) (o := _) rfl _ _ _; rotate_left; (focus rfl); (focus (intro wS hS; have hE := Ext.refl wS; (skip); go_simp; try (with_reducible (first | exact ⟨rfl, hS, hE⟩ | rfl)); done)); simp only [Act.put, List.setIfInBounds_toArray, List.set_cons_zero, List.set_cons_succ]))
        refine flow2_nil ?_
        intro wT hE hS
        have HT := Lib.hid hS
        clear hE hS
        go_wp2_with fail
        go_returns
        exact ⟨j, rfl, HC.out, HB.out.trans (HT.out.mono HB.out.size)⟩
      · have hnI : ¬ (j : Int) < (l.length : Int) := by omega
        have hf : (find kF l (kF x)).isSome = false := by rw [HF.out, dif_neg hn]; rfl
        obtain rfl : r = false := HFR.out.trans hf
        clear hf
        go_wp2_with fail
        refine wp_region_flow2_lit [(0, false), (1, false), (2, false), (3, false), (4, false), (5, false), (6, false), (7, false), (8, false), (9, false), (10, false), (11, false), (12, false), (13, false), (14, false), (15, false)] (fun wS => Below W.heap.size W wS) (by kernel_rfl) (by kernel_rfl) (by kernel_rfl) HQ.out.drew ?_
        repeat (first | (refine' flow2_pass (o := _) rfl _ _; (focus rfl); simp only [Act.put, List.setIfInBounds_toArray, List.set_cons_zero, List.set_cons_succ]) | (refine' flow2_take (v := _) (o := _) rfl _ _ _; rotate_left; (focus rfl); (focus (intro wS hS; have hE := Ext.refl wS; (skip); go_simp; try (with_reducible (first | exact ⟨rfl, hS, hE⟩ | rfl)); done)); simp only [Act.put, List.setIfInBounds_toArray, List.set_cons_zero, List.set_cons_succ]))
        refine flow2_nil ?_
        intro wT hE hS
        have HT := Lib.hid hS
        clear hE hS
        go_wp2_with fail
        go_returns
        exact ⟨j, rfl, HC.out, HB.out.trans (HT.out.mono HB.out.size)⟩
set_option maxHeartbeats 8000000 in
theorem bs_Nm {l : List Nm} {v : Value} {B : Nat} {w : World} (x : Nm) (hs : Srt kN lN l) (h : Rs w B v l) :
    Calls Tryz.prog 94 #[v, .agg (arr x), .func (.func 45) #[] #[]] w fun e w' => ∃ i : Nat, e = .returned (.tuple #[.int .i64 i, .bool (find kN l (kN x)).isSome]) ∧ Cut kN lN l (kN x) i ∧ Below w.heap.size w w' := by
  obtain ⟨A, cap, rfl, hlc, hcap⟩ := h.any
  obtain ⟨r, hfr⟩ : ∃ r, r = (find kN l (kN x)).isSome := ⟨_, rfl⟩
  rw [← hfr]
  have HFR := Lib.hid hfr
  clear hfr
  obtain ⟨W, hW⟩ : ∃ W, W = w.alloc (.cells (arr x) 54) := ⟨_, rfl⟩
  have hr : Rs W B (.slice A l.length cap) l := by rw [hW]; exact h.below (by go_grown)
  have hx : W.heap[w.heap.size]? = some (.cells (arr x) 54) := by rw [hW]; exact heap_alloc_new _ _
  have HB : Hid (Below w.heap.size w W) := Lib.hid (by rw [hW]; go_grown)
  have HS := Lib.hid hs
  have HR := Lib.hid hr
  have HX := Lib.hid hx
  have HW := Lib.hid hW
  clear hs hr hx hW h
  go_enter Tryz.func94, Tryz.ntmps94
  go_wp2_with fail
  rw [← HW.out]
  go_loopw [9, 10] (fun si sj wq => ∃ i j : Nat, si = .int .i64 i ∧ sj = .int .i64 j ∧ i ≤ j ∧ j ≤ l.length ∧ (∀ y ∈ l.take i, lN (kN y) (kN x) = true) ∧ (∀ y ∈ l.drop j, lN (kN y) (kN x) = false) ∧ Below W.heap.size W wq) (fun si sj _ => (intOf sj - intOf si).toNat)
  case atStart => exact ⟨0, l.length, rfl, rfl, by omega, by omega, fun y hy => by simp at hy, fun y hy => by simp at hy, Below.refl _ _⟩
  case round =>
    obtain ⟨i, j, rfl, rfl, hij, hjl, hlo, hhi, hbq⟩ := hrel
    have HQ := Lib.hid hbq
    have HI := Lib.hid (And.intro hlo hhi)
    clear hbq hlo hhi
    by_cases hlt : i < j
    · have hltI : (i : Int) < (j : Int) := by omega
      obtain ⟨m, hm⟩ : ∃ m : Nat, m = (i + j) / 2 := ⟨_, rfl⟩
      have HMW : Hid (wrap64 (IntKind.u64.wrap (wrap64 ((i : Int) + (j : Int))) / 2) = (m : Int)) := Lib.hid (by rw [mid_num (by omega) (by have : maxLen = 9223372036854775807 := rfl; omega)]; omega)
      have hml : m < l.length := by omega
      have hmb : i ≤ m ∧ m < j := by omega
      clear hm
      obtain ⟨b, off, cap', he, _, _⟩ := HR.out.shape (by omega)
      cases he
      have HE := Lib.hid (And.intro (HR.out.range hml) (show b < W.heap.size from HR.out.lt b rfl))
      have hmlI : (m : Int) < (l.length : Int) := by omega
      go_wp2_with fail
      rw [HMW.out]
      refine wp_region_flow2_lit [(0, false), (1, false), (2, false), (3, false), (4, false), (5, false), (6, false), (7, false)] (fun wS => Below W.heap.size W wS) (by kernel_rfl) (by kernel_rfl) (by kernel_rfl) HQ.out.drew ?_
      repeat (first | (refine' flow2_pass (o := _) rfl _ _; (focus rfl); simp only [Act.put, List.setIfInBounds_toArray, List.set_cons_zero, List.set_cons_succ]) | (refine' flow2_take (v := _) (o := _) rfl _ _ _; rotate_left; (focus rfl); (focus (intro wS hS; have hE := Ext.refl wS; (skip); go_simp; try (with_reducible (first | exact ⟨rfl, hS, hE⟩ | rfl)); done)); simp only [Act.put, List.setIfInBounds_toArray, List.set_cons_zero, List.set_cons_succ]))
      (refine flow2_take (v := .agg (arr l[m])) (o := _) rfl rfl (fun wS hS => gives_row rfl rfl (rangeAt_below HE.out.1 HE.out.2 hS) ⟨hS, Ext.refl wS⟩) ?_; simp only [Act.put, List.setIfInBounds_toArray, List.set_cons_zero, List.set_cons_succ])
      (refine flow2_take (v := .agg (arr x)) (o := _) rfl rfl (fun wS hS => gives_row rfl rfl (range_row ((hS.block _ (heap_lt HX.out)).trans HX.out)) ⟨hS, Ext.refl wS⟩) ?_; simp only [Act.put, List.setIfInBounds_toArray, List.set_cons_zero, List.set_cons_succ])
      (refine' flow2_take (v := _) (o := _) rfl _ _ _; rotate_left; (focus rfl); (focus (intro wS hS; go_simp; refine (known_any _ _ _).mono ?_; rintro e w' ⟨rfl, hb⟩; refine ⟨?_, hS.trans (hb.mono hS.size), hb⟩; rfl)); simp only [Act.put, List.setIfInBounds_toArray, List.set_cons_zero, List.set_cons_succ])
      repeat (first | (refine' flow2_pass (o := _) rfl _ _; (focus rfl); simp only [Act.put, List.setIfInBounds_toArray, List.set_cons_zero, List.set_cons_succ]) | (refine' flow2_take (v := _) (o := _) rfl _ _ _; rotate_left; (focus rfl); (focus (intro wS hS; have hE := Ext.refl wS; (skip); go_simp; try (with_reducible (first | exact ⟨rfl, hS, hE⟩ | rfl)); done)); simp only [Act.put, List.setIfInBounds_toArray, List.set_cons_zero, List.set_cons_succ]))
      refine flow2_nil ?_
      intro wT hE hS
      have HT := Lib.hid hS
      clear hE hS
      have H3 := Lib.hid (c3_neg (lt := lN) (kN l[m]) (kN x))
      have hm63 : wrap64 ((m : Int) + 1) = (m : Int) + 1 := IntWalk.wrap64_in _ (by have : maxLen = 9223372036854775807 := rfl; omega)
      have HM1 : Hid (((intOf (.int .i64 (j : Int)) - intOf (.int .i64 (wrap64 ((m : Int) + 1)))).toNat < (intOf (.int .i64 (j : Int)) - intOf (.int .i64 (i : Int))).toNat)) := Lib.hid (by
        rw [hm63]
        show ((j : Int) - ((m : Int) + 1)).toNat < ((j : Int) - (i : Int)).toNat
        omega)
      have HM3 := Lib.hid hm63
      clear hm63
      cases hlt2 : lN (kN l[m]) (kN x) with
      | true =>
        have h3 : c3 lN (kN l[m]) (kN x) < 0 := of_decide_eq_true (H3.out.trans hlt2)
        have HL2 := Lib.hid hlt2
        clear hlt2
        go_wp2_with fail
        go_roundw
        case rel => exact ⟨m + 1, j, by rw [HM3.out]; rfl, rfl, by omega, hjl, cut_lo lN_lin HS.out hml HL2.out, HI.out.2, HT.out⟩
        case measure => exact HM1.out
      | false =>
        have h3 : ¬ c3 lN (kN l[m]) (kN x) < 0 := of_decide_eq_false (H3.out.trans hlt2)
        have HL2 := Lib.hid hlt2
        clear hlt2
        go_wp2_with fail
        go_roundw
        case rel => exact ⟨i, m, rfl, rfl, by omega, by omega, HI.out.1, cut_hi lN_lin HS.out hml HL2.out, HT.out⟩
        case measure => simp [intOf]; omega
    · obtain rfl : j = i := by omega
      have hltI : ¬ (j : Int) < (j : Int) := by omega
      have HC : Hid (Cut kN lN l (kN x) j) := Lib.hid ⟨hjl, HI.out.1, HI.out.2⟩
      have HF := Lib.hid (HC.out.findEq lN_lin HS.out)
      by_cases hn : j < l.length
      · have hnI : (j : Int) < (l.length : Int) := by omega
        obtain ⟨b, off, cap', he, _, _⟩ := HR.out.shape (by omega)
        cases he
        have HE := Lib.hid (And.intro (HR.out.range hn) (show b < W.heap.size from HR.out.lt b rfl))
        have hf : (find kN l (kN x)).isSome = decide (kN l[j] = kN x) := by
          rw [HF.out, dif_pos hn]
          by_cases e : kN l[j] = kN x
          · rw [if_pos e, decide_eq_true e]; rfl
          · rw [if_neg e, decide_eq_false e]; rfl
        have h0 := c3_zero lN_lin (kN l[j]) (kN x)
        rw [← hf, ← HFR.out] at h0
        clear hf
        go_wp2_with fail
        refine wp_region_flow2_lit [(0, false), (1, false), (2, false), (3, false), (4, false), (5, false), (6, false), (7, false), (8, false), (9, false), (10, false), (11, false), (12, false), (13, false), (14, false), (15, false)] (fun wS => Below W.heap.size W wS) (by kernel_rfl) (by kernel_rfl) (by kernel_rfl) HQ.out.drew ?_
        repeat (first | (refine' flow2_pass (o := _) rfl _ _; (focus rfl); simp only [Act.put, List.setIfInBounds_toArray, List.set_cons_zero, List.set_cons_succ]) | (refine' flow2_take (v := _) (o := _) rfl _ _ _; rotate_left; (focus rfl); (focus (intro wS hS; have hE := Ext.refl wS; (skip); go_simp; try (with_reducible (first | exact ⟨rfl, hS, hE⟩ | rfl)); done)); simp only [Act.put, List.setIfInBounds_toArray, List.set_cons_zero, List.set_cons_succ]))
        (refine flow2_take (v := .agg (arr l[j])) (o := _) rfl rfl (fun wS hS => gives_row rfl rfl (rangeAt_below HE.out.1 HE.out.2 hS) ⟨hS, Ext.refl wS⟩) ?_; simp only [Act.put, List.setIfInBounds_toArray, List.set_cons_zero, List.set_cons_succ])
        (refine flow2_take (v := .agg (arr x)) (o := _) rfl rfl (fun wS hS => gives_row rfl rfl (range_row ((hS.block _ (heap_lt HX.out)).trans HX.out)) ⟨hS, Ext.refl wS⟩) ?_; simp only [Act.put, List.setIfInBounds_toArray, List.set_cons_zero, List.set_cons_succ])
        (refine' flow2_take (v := _) (o := _) rfl _ _ _; rotate_left; (focus rfl); (focus (intro wS hS; go_simp; refine (known_any _ _ _).mono ?_; rintro e w' ⟨rfl, hb⟩; refine ⟨?_, hS.trans (hb.mono hS.size), hb⟩; rfl)); simp only [Act.put, List.setIfInBounds_toArray, List.set_cons_zero, List.set_cons_succ])
        repeat (first | (refine' flow2_pass (o := _) rfl _ _; (focus rfl); simp only [Act.put, List.setIfInBounds_toArray, List.set_cons_zero, List.set_cons_succ]) | (refine' flow2_take (v := _) (o := _) rfl _ _ _; rotate_left; (focus rfl); (focus (intro wS hS; have hE := Ext.refl wS; (skip); go_simp; try (with_reducible (first | exact ⟨rfl, hS, hE⟩ | rfl)); done)); simp only [Act.put, List.setIfInBounds_toArray, List.set_cons_zero, List.set_cons_succ]))
        refine flow2_nil ?_
        intro wT hE hS
        have HT := Lib.hid hS
        clear hE hS
        go_wp2_with fail
        go_returns
        exact ⟨j, rfl, HC.out, HB.out.trans (HT.out.mono HB.out.size)⟩
      · have hnI : ¬ (j : Int) < (l.length : Int) := by omega
        have hf : (find kN l (kN x)).isSome = false := by rw [HF.out, dif_neg hn]; rfl
        obtain rfl : r = false := HFR.out.trans hf
        clear hf
        go_wp2_with fail
        refine wp_region_flow2_lit [(0, false), (1, false), (2, false), (3, false), (4, false), (5, false), (6, false), (7, false), (8, false), (9, false), (10, false), (11, false), (12, false), (13, false), (14, false), (15, false)] (fun wS => Below W.heap.size W wS) (by kernel_rfl) (by kernel_rfl) (by kernel_rfl) HQ.out.drew ?_
        repeat (first | (refine' flow2_pass (o := _) rfl _ _; (focus rfl); simp only [Act.put, List.setIfInBounds_toArray, List.set_cons_zero, List.set_cons_succ]) | (refine' flow2_take (v := _) (o := _) rfl _ _ _; rotate_left; (focus rfl); (focus (intro wS hS; have hE := Ext.refl wS; (skip); go_simp; try (with_reducible (first | exact ⟨rfl, hS, hE⟩ | rfl)); done)); simp only [Act.put, List.setIfInBounds_toArray, List.set_cons_zero, List.set_cons_succ]))
        refine flow2_nil ?_
        intro wT hE hS
        have HT := Lib.hid hS
        clear hE hS
        go_wp2_with fail
        go_returns
        exact ⟨j, rfl, HC.out, HB.out.trans (HT.out.mono HB.out.size)⟩
set_option maxHeartbeats 8000000 in
theorem bs_Bl {l : List Bl} {v : Value} {B : Nat} {w : World} (x : Bl) (hs : Srt kB lB l) (h : Rs w B v l) :
    Calls Tryz.prog 95 #[v, .agg (arr x), .func (.func 47) #[] #[]] w fun e w' => ∃ i : Nat, e = .returned (.tuple #[.int .i64 i, .bool (find kB l (kB x)).isSome]) ∧ Cut kB lB l (kB x) i ∧ Below w.heap.size w w' := by
  obtain ⟨A, cap, rfl, hlc, hcap⟩ := h.any
  obtain ⟨r, hfr⟩ : ∃ r, r = (find kB l (kB x)).isSome := ⟨_, rfl⟩
  rw [← hfr]
  have HFR := Lib.hid hfr
  clear hfr
  obtain ⟨W, hW⟩ : ∃ W, W = w.alloc (.cells (arr x) 59) := ⟨_, rfl⟩
  have hr : Rs W B (.slice A l.length cap) l := by rw [hW]; exact h.below (by go_grown)
  have hx : W.heap[w.heap.size]? = some (.cells (arr x) 59) := by rw [hW]; exact heap_alloc_new _ _
  have HB : Hid (Below w.heap.size w W) := Lib.hid (by rw [hW]; go_grown)
  have HS := Lib.hid hs
  have HR := Lib.hid hr
  have HX := Lib.hid hx
  have HW := Lib.hid hW
  clear hs hr hx hW h
  go_enter Tryz.func95, Tryz.ntmps95
  go_wp2_with fail
  rw [← HW.out]
  go_loopw [9, 10] (fun si sj wq => ∃ i j : Nat, si = .int .i64 i ∧ sj = .int .i64 j ∧ i ≤ j ∧ j ≤ l.length ∧ (∀ y ∈ l.take i, lB (kB y) (kB x) = true) ∧ (∀ y ∈ l.drop j, lB (kB y) (kB x) = false) ∧ Below W.heap.size W wq) (fun si sj _ => (intOf sj - intOf si).toNat)
  case atStart => exact ⟨0, l.length, rfl, rfl, by omega, by omega, fun y hy => by simp at hy, fun y hy => by simp at hy, Below.refl _ _⟩
  case round =>
    obtain ⟨i, j, rfl, rfl, hij, hjl, hlo, hhi, hbq⟩ := hrel
    have HQ := Lib.hid hbq
    have HI := Lib.hid (And.intro hlo hhi)
    clear hbq hlo hhi
    by_cases hlt : i < j
    · have hltI : (i : Int) < (j : Int) := by omega
      obtain ⟨m, hm⟩ : ∃ m : Nat, m = (i + j) / 2 := ⟨_, rfl⟩
      have HMW : Hid (wrap64 (IntKind.u64.wrap (wrap64 ((i : Int) + (j : Int))) / 2) = (m : Int)) := Lib.hid (by rw [mid_num (by omega) (by have : maxLen = 9223372036854775807 := rfl; omega)]; omega)
      have hml : m < l.length := by omega
      have hmb : i ≤ m ∧ m < j := by omega
      clear hm
      obtain ⟨b, off, cap', he, _, _⟩ := HR.out.shape (by omega)
      cases he
      have HE := Lib.hid (And.intro (HR.out.range hml) (show b < W.heap.size from HR.out.lt b rfl))
      have hmlI : (m : Int) < (l.length : Int) := by omega
      go_wp2_with fail
      rw [HMW.out]
      refine wp_region_flow2_lit [(0, false), (1, false), (2, false), (3, false), (4, false), (5, false), (6, false), (7, false)] (fun wS => Below W.heap.size W wS) (by kernel_rfl) (by kernel_rfl) (by kernel_rfl) HQ.out.drew ?_
      repeat (first | (refine' flow2_pass (o := _) rfl _ _; (focus rfl); simp only [Act.put, List.setIfInBounds_toArray, List.set_cons_zero, List.set_cons_succ]) | (refine' flow2_take (v := _) (o := _) rfl _ _ _; rotate_left; (focus rfl); (focus (intro wS hS; have hE := Ext.refl wS; (skip); go_simp; try (with_reducible (first | exact ⟨rfl, hS, hE⟩ | rfl)); done)); simp only [Act.put, List.setIfInBounds_toArray, List.set_cons_zero, List.set_cons_succ]))
      (refine flow2_take (v := .agg (arr l[m])) (o := _) rfl rfl (fun wS hS => gives_row rfl rfl (rangeAt_below HE.out.1 HE.out.2 hS) ⟨hS, Ext.refl wS⟩) ?_; simp only [Act.put, List.setIfInBounds_toArray, List.set_cons_zero, List.set_cons_succ])
      (refine flow2_take (v := .agg (arr x)) (o := _) rfl rfl (fun wS hS => gives_row rfl rfl (range_row ((hS.block _ (heap_lt HX.out)).trans HX.out)) ⟨hS, Ext.refl wS⟩) ?_; simp only [Act.put, List.setIfInBounds_toArray, List.set_cons_zero, List.set_cons_succ])
      (refine' flow2_take (v := _) (o := _) rfl _ _ _; rotate_left; (focus rfl); (focus (intro wS hS; go_simp; refine (placed_any _ _ _).mono ?_; rintro e w' ⟨rfl, hb⟩; refine ⟨?_, hS.trans (hb.mono hS.size), hb⟩; rfl)); simp only [Act.put, List.setIfInBounds_toArray, List.set_cons_zero, List.set_cons_succ])
      repeat (first | (refine' flow2_pass (o := _) rfl _ _; (focus rfl); simp only [Act.put, List.setIfInBounds_toArray, List.set_cons_zero, List.set_cons_succ]) | (refine' flow2_take (v := _) (o := _) rfl _ _ _; rotate_left; (focus rfl); (focus (intro wS hS; have hE := Ext.refl wS; (skip); go_simp; try (with_reducible (first | exact ⟨rfl, hS, hE⟩ | rfl)); done)); simp only [Act.put, List.setIfInBounds_toArray, List.set_cons_zero, List.set_cons_succ]))
      refine flow2_nil ?_
      intro wT hE hS
      have HT := Lib.hid hS
      clear hE hS
      have H3 := Lib.hid (c3_neg (lt := lB) (kB l[m]) (kB x))
      have hm63 : wrap64 ((m : Int) + 1) = (m : Int) + 1 := IntWalk.wrap64_in _ (by have : maxLen = 9223372036854775807 := rfl; omega)
      have HM1 : Hid (((intOf (.int .i64 (j : Int)) - intOf (.int .i64 (wrap64 ((m : Int) + 1)))).toNat < (intOf (.int .i64 (j : Int)) - intOf (.int .i64 (i : Int))).toNat)) := Lib.hid (by
        rw [hm63]
        show ((j : Int) - ((m : Int) + 1)).toNat < ((j : Int) - (i : Int)).toNat
        omega)
      have HM3 := Lib.hid hm63
      clear hm63
      cases hlt2 : lB (kB l[m]) (kB x) with
      | true =>
        have h3 : c3 lB (kB l[m]) (kB x) < 0 := of_decide_eq_true (H3.out.trans hlt2)
        have HL2 := Lib.hid hlt2
        clear hlt2
        go_wp2_with fail
        go_roundw
        case rel => exact ⟨m + 1, j, by rw [HM3.out]; rfl, rfl, by omega, hjl, cut_lo lB_lin HS.out hml HL2.out, HI.out.2, HT.out⟩
        case measure => exact HM1.out
      | false =>
        have h3 : ¬ c3 lB (kB l[m]) (kB x) < 0 := of_decide_eq_false (H3.out.trans hlt2)
        have HL2 := Lib.hid hlt2
        clear hlt2
        go_wp2_with fail
        go_roundw
        case rel => exact ⟨i, m, rfl, rfl, by omega, by omega, HI.out.1, cut_hi lB_lin HS.out hml HL2.out, HT.out⟩
        case measure => simp [intOf]; omega
    · obtain rfl : j = i := by omega
      have hltI : ¬ (j : Int) < (j : Int) := by omega
      have HC : Hid (Cut kB lB l (kB x) j) := Lib.hid ⟨hjl, HI.out.1, HI.out.2⟩
      have HF := Lib.hid (HC.out.findEq lB_lin HS.out)
      by_cases hn : j < l.length
      · have hnI : (j : Int) < (l.length : Int) := by omega
        obtain ⟨b, off, cap', he, _, _⟩ := HR.out.shape (by omega)
        cases he
        have HE := Lib.hid (And.intro (HR.out.range hn) (show b < W.heap.size from HR.out.lt b rfl))
        have hf : (find kB l (kB x)).isSome = decide (kB l[j] = kB x) := by
          rw [HF.out, dif_pos hn]
          by_cases e : kB l[j] = kB x
          · rw [if_pos e, decide_eq_true e]; rfl
          · rw [if_neg e, decide_eq_false e]; rfl
        have h0 := c3_zero lB_lin (kB l[j]) (kB x)
        rw [← hf, ← HFR.out] at h0
        clear hf
        go_wp2_with fail
        refine wp_region_flow2_lit [(0, false), (1, false), (2, false), (3, false), (4, false), (5, false), (6, false), (7, false), (8, false), (9, false), (10, false), (11, false), (12, false), (13, false), (14, false), (15, false)] (fun wS => Below W.heap.size W wS) (by kernel_rfl) (by kernel_rfl) (by kernel_rfl) HQ.out.drew ?_
        repeat (first | (refine' flow2_pass (o := _) rfl _ _; (focus rfl); simp only [Act.put, List.setIfInBounds_toArray, List.set_cons_zero, List.set_cons_succ]) | (refine' flow2_take (v := _) (o := _) rfl _ _ _; rotate_left; (focus rfl); (focus (intro wS hS; have hE := Ext.refl wS; (skip); go_simp; try (with_reducible (first | exact ⟨rfl, hS, hE⟩ | rfl)); done)); simp only [Act.put, List.setIfInBounds_toArray, List.set_cons_zero, List.set_cons_succ]))
        (refine flow2_take (v := .agg (arr l[j])) (o := _) rfl rfl (fun wS hS => gives_row rfl rfl (rangeAt_below HE.out.1 HE.out.2 hS) ⟨hS, Ext.refl wS⟩) ?_; simp only [Act.put, List.setIfInBounds_toArray, List.set_cons_zero, List.set_cons_succ])
        (refine flow2_take (v := .agg (arr x)) (o := _) rfl rfl (fun wS hS => gives_row rfl rfl (range_row ((hS.block _ (heap_lt HX.out)).trans HX.out)) ⟨hS, Ext.refl wS⟩) ?_; simp only [Act.put, List.setIfInBounds_toArray, List.set_cons_zero, List.set_cons_succ])
        (refine' flow2_take (v := _) (o := _) rfl _ _ _; rotate_left; (focus rfl); (focus (intro wS hS; go_simp; refine (placed_any _ _ _).mono ?_; rintro e w' ⟨rfl, hb⟩; refine ⟨?_, hS.trans (hb.mono hS.size), hb⟩; rfl)); simp only [Act.put, List.setIfInBounds_toArray, List.set_cons_zero, List.set_cons_succ])
        repeat (first | (refine' flow2_pass (o := _) rfl _ _; (focus rfl); simp only [Act.put, List.setIfInBounds_toArray, List.set_cons_zero, List.set_cons_succ]) | (refine' flow2_take (v := _) (o := _) rfl _ _ _; rotate_left; (focus rfl); (focus (intro wS hS; have hE := Ext.refl wS; (skip); go_simp; try (with_reducible (first | exact ⟨rfl, hS, hE⟩ | rfl)); done)); simp only [Act.put, List.setIfInBounds_toArray, List.set_cons_zero, List.set_cons_succ]))
        refine flow2_nil ?_
        intro wT hE hS
        have HT := Lib.hid hS
        clear hE hS
        go_wp2_with fail
        go_returns
        exact ⟨j, rfl, HC.out, HB.out.trans (HT.out.mono HB.out.size)⟩
      · have hnI : ¬ (j : Int) < (l.length : Int) := by omega
        have hf : (find kB l (kB x)).isSome = false := by rw [HF.out, dif_neg hn]; rfl
        obtain rfl : r = false := HFR.out.trans hf
        clear hf
        go_wp2_with fail
        refine wp_region_flow2_lit [(0, false), (1, false), (2, false), (3, false), (4, false), (5, false), (6, false), (7, false), (8, false), (9, false), (10, false), (11, false), (12, false), (13, false), (14, false), (15, false)] (fun wS => Below W.heap.size W wS) (by kernel_rfl) (by kernel_rfl) (by kernel_rfl) HQ.out.drew ?_
        repeat (first | (refine' flow2_pass (o := _) rfl _ _; (focus rfl); simp only [Act.put, List.setIfInBounds_toArray, List.set_cons_zero, List.set_cons_succ]) | (refine' flow2_take (v := _) (o := _) rfl _ _ _; rotate_left; (focus rfl); (focus (intro wS hS; have hE := Ext.refl wS; (skip); go_simp; try (with_reducible (first | exact ⟨rfl, hS, hE⟩ | rfl)); done)); simp only [Act.put, List.setIfInBounds_toArray, List.set_cons_zero, List.set_cons_succ]))
        refine flow2_nil ?_
        intro wT hE hS
        have HT := Lib.hid hS
        clear hE hS
        go_wp2_with fail
        go_returns
        exact ⟨j, rfl, HC.out, HB.out.trans (HT.out.mono HB.out.size)⟩
end Go.Proofs.YtokhnbdhcehonaaGreat
