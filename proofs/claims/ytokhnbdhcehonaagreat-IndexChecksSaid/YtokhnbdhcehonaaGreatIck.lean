/- index: whether a list rises, step by step. -/
import Derived.Test.YtokhnbdhcehonaaGreatRowk
import Derived.Maps.OwnSet
import Derived.Test.YtokhnbdhcehonaaGreatCa
import Derived.Test.YtokhnbdhcehonaaGreatChk
import Derived.Test.YtokhnbdhcehonaaGreatIcV
set_option linter.unusedSimpArgs false
set_option linter.unusedVariables false
namespace Go.Proofs.YtokhnbdhcehonaaGreat
open Go Go.RowKit Row
set_option linter.unusedSectionVars false
/-- an answer that tells whether P -/
def IsV (P : Prop) (w : World) (e : Ending) (w' : World) : Prop := ∃ b : Bool, e = .returned (.bool b) ∧ (b = true ↔ P) ∧ Below w.heap.size w w'
section
variable {α κ : Type} [DecidableEq κ] {k : α → κ} {lt : κ → κ → Bool} {l : List α} {i : Nat}
theorem srt_next (hl : Lin lt) (hi : i < l.length) (h0 : 0 < i) (hx : lt (k (l[i - 1]'(by omega))) (k l[i]) = true) (hs : Srt k lt (l.take i)) : Srt k lt (l.take (i + 1)) := by
  unfold Srt
  rw [List.take_succ_eq_append_getElem hi, List.pairwise_append]
  refine ⟨hs, List.pairwise_singleton _ _, fun a ha b hb => ?_⟩
  rw [List.mem_singleton.1 hb]
  obtain ⟨j, hj, rfl⟩ := List.mem_take_iff_getElem.1 ha
  by_cases e : j = i - 1
  · subst e; exact hx
  · refine hl.tr _ _ _ ?_ hx
    have := List.pairwise_iff_getElem.1 hs j (i - 1) (by rw [List.length_take]; omega) (by rw [List.length_take]; omega) (by omega)
    simpa using this
theorem srt_first (hi : 0 < l.length) : Srt k lt (l.take 1) := by
  unfold Srt
  rw [List.take_succ_eq_append_getElem hi]
  exact List.pairwise_singleton _ _
theorem srt_break (hi : i < l.length) (h0 : 0 < i) (hx : lt (k (l[i - 1]'(by omega))) (k l[i]) = false) : ¬ Srt k lt l := fun hs => by
  rw [List.pairwise_iff_getElem.1 hs (i - 1) i (by omega) hi (by omega)] at hx
  cases hx
theorem c3_geq (a b : κ) : decide (c3 lt a b ≥ 0) = !lt a b := by
  unfold c3
  cases lt a b <;> simp
  split <;> simp
end
end Go.Proofs.YtokhnbdhcehonaaGreat
/- index: index.rises (printed by gen_bs.py off its template). -/
namespace Go.Proofs.YtokhnbdhcehonaaGreat
open Go Go.RowKit Row
set_option maxRecDepth 100000
set_option maxHeartbeats 8000000 in
theorem ri_Hd {l : List Hd} {v : Value} {B : Nat} {w : World} (h : Rs w B v l) :
    Calls Tryz.prog 59 #[v, .func (.func 40) #[] #[]] w (IsV (Srt kH lH l) w) := by
  obtain ⟨A, cap, rfl, hlc, hcap⟩ := h.any
  have HR := Lib.hid h
  clear h
  have hm63 : maxLen = 9223372036854775807 := rfl
  go_enter Tryz.func59, Tryz.ntmps59
  go_wp2_with fail
  go_loopw [8] (fun i wq => ∃ k : Nat, k ≤ l.length ∧ i = .int .i64 k ∧ Srt kH lH (l.take k) ∧ Below w.heap.size w wq) (fun i _ => l.length - (intOf i).toNat)
  case atStart => exact ⟨0, by omega, rfl, .nil, Below.refl _ _⟩
  case round =>
    obtain ⟨k, hk, rfl, hs, hbq⟩ := hrel
    have HQ := Lib.hid hbq
    have HS := Lib.hid hs
    clear hbq hs
    by_cases hlt : k < l.length
    · have hltI : (k : Int) < (l.length : Int) := by omega
      by_cases h0 : 0 < k
      · have h0I : (0 : Int) < (k : Int) := by omega
        have hp : k - 1 < l.length := by omega
        obtain ⟨b, off, cap', he, _, _⟩ := HR.out.shape (by omega)
        cases he
        have HE := Lib.hid (rangeAt_below (HR.out.range hlt) (HR.out.lt b rfl) HQ.out)
        have HE1 := Lib.hid (rangeAt_below (HR.out.range hp) (HR.out.lt b rfl) HQ.out)
        have HBL := Lib.hid (Nat.lt_of_lt_of_le (HR.out.lt b rfl) HQ.out.size)
        have HN := Lib.hid (fun hx => srt_next lH_lin hlt h0 hx HS.out)
        have HB0 := Lib.hid (fun hx => srt_break (k := kH) (lt := lH) hlt h0 hx)
        obtain ⟨j, hj⟩ : ∃ j : Nat, j = k - 1 := ⟨_, rfl⟩
        have hjI : IntKind.i64.wrap ((k : Int) - 1) = (j : Int) := by rw [IntWalk.i64_in _ (by omega)]; omega
        have hjlI : (j : Int) < (l.length : Int) := by omega
        have hjl : j < l.length := by omega
        simp only [← hj] at HE1 HN HB0
        have H3 := Lib.hid (c3_geq (lt := lH) (kH (l[j]'hjl)) (kH l[k]))
        generalize (l[j]'hjl) = xj at HE1 HN HB0 H3
        generalize (l[k]'hlt) = xk at HE HN HB0 H3
        clear hj
        go_wp2_with fail
        refine wp_region_flow2_lit [(0, false), (1, false), (2, false), (3, false), (4, false), (5, false), (6, false), (7, false), (8, false), (9, false), (10, false), (11, false), (12, false), (13, false), (14, false), (15, false)] (fun wS => Below wr.heap.size wr wS) (by kernel_rfl) (by kernel_rfl) (by kernel_rfl) (Below.refl _ _).drew ?_
        repeat (first | (refine' flow2_pass (o := _) rfl _ _; (focus rfl); simp only [Act.put, List.setIfInBounds_toArray, List.set_cons_zero, List.set_cons_succ]) | (refine' flow2_take (v := _) (o := _) rfl _ _ _; rotate_left; (focus rfl); (focus (intro wS hS; have hE := Ext.refl wS; (skip); go_simp; try (with_reducible (first | exact ⟨rfl, hS, hE⟩ | rfl)); done)); simp only [Act.put, List.setIfInBounds_toArray, List.set_cons_zero, List.set_cons_succ]))
        (refine flow2_take (v := .agg (arr xj)) (o := _) rfl rfl (fun wS hS => gives_row rfl rfl (rangeAt_below HE1.out HBL.out hS) ⟨hS, Ext.refl wS⟩) ?_; simp only [Act.put, List.setIfInBounds_toArray, List.set_cons_zero, List.set_cons_succ])
        repeat (first | (refine' flow2_pass (o := _) rfl _ _; (focus rfl); simp only [Act.put, List.setIfInBounds_toArray, List.set_cons_zero, List.set_cons_succ]) | (refine' flow2_take (v := _) (o := _) rfl _ _ _; rotate_left; (focus rfl); (focus (intro wS hS; have hE := Ext.refl wS; (skip); go_simp; try (with_reducible (first | exact ⟨rfl, hS, hE⟩ | rfl)); done)); simp only [Act.put, List.setIfInBounds_toArray, List.set_cons_zero, List.set_cons_succ]))
        (refine flow2_take (v := .agg (arr xk)) (o := _) rfl rfl (fun wS hS => gives_row rfl rfl (rangeAt_below HE.out HBL.out hS) ⟨hS, Ext.refl wS⟩) ?_; simp only [Act.put, List.setIfInBounds_toArray, List.set_cons_zero, List.set_cons_succ])
        (refine' flow2_take (v := _) (o := _) rfl _ _ _; rotate_left; (focus rfl); (focus (intro wS hS; go_simp; refine (held_any _ _ _).mono ?_; rintro e w' ⟨rfl, hb⟩; refine ⟨?_, hS.trans (hb.mono hS.size), hb⟩; rfl)); simp only [Act.put, List.setIfInBounds_toArray, List.set_cons_zero, List.set_cons_succ])
        repeat (first | (refine' flow2_pass (o := _) rfl _ _; (focus rfl); simp only [Act.put, List.setIfInBounds_toArray, List.set_cons_zero, List.set_cons_succ]) | (refine' flow2_take (v := _) (o := _) rfl _ _ _; rotate_left; (focus rfl); (focus (intro wS hS; have hE := Ext.refl wS; (skip); go_simp; try (with_reducible (first | exact ⟨rfl, hS, hE⟩ | rfl)); done)); simp only [Act.put, List.setIfInBounds_toArray, List.set_cons_zero, List.set_cons_succ]))
        refine flow2_nil ?_
        intro wT hE hS
        have HT := Lib.hid (HQ.out.trans (hS.mono HQ.out.size))
        clear hE hS
        cases hx : lH (kH xj) (kH xk) with
        | true =>
          have h3 : ¬ 0 ≤ c3 lH (kH xj) (kH xk) := of_decide_eq_false (H3.out.trans (by rw [hx]; rfl))
          have HN2 := Lib.hid (HN.out hx)
          clear hx
          go_wp2_with fail
          go_roundw
          case rel => exact ⟨k + 1, by omega, by go_num, HN2.out, HT.out⟩
          case measure => simp [intOf]; omega
        | false =>
          have h3 : 0 ≤ c3 lH (kH xj) (kH xk) := of_decide_eq_true (H3.out.trans (by rw [hx]; rfl))
          have HB2 := Lib.hid (HB0.out hx)
          clear hx
          go_wp2_with fail
          go_returns
          exact ⟨false, rfl, ⟨fun h => (nomatch h), fun h => absurd h HB2.out⟩, HT.out⟩
      · have h0I : ¬ (0 : Int) < (k : Int) := by omega
        have HN := Lib.hid (srt_first (k := kH) (lt := lH) (l := l) (by omega))
        go_wp2_with fail
        refine wp_region_flow2_lit [(0, false), (1, false), (2, false), (3, false), (4, false), (5, false), (6, false), (7, false), (8, false), (9, false), (10, false), (11, false), (12, false), (13, false), (14, false), (15, false)] (fun wS => Below wr.heap.size wr wS) (by kernel_rfl) (by kernel_rfl) (by kernel_rfl) (Below.refl _ _).drew ?_
        repeat (first | (refine' flow2_pass (o := _) rfl _ _; (focus rfl); simp only [Act.put, List.setIfInBounds_toArray, List.set_cons_zero, List.set_cons_succ]) | (refine' flow2_take (v := _) (o := _) rfl _ _ _; rotate_left; (focus rfl); (focus (intro wS hS; have hE := Ext.refl wS; (skip); go_simp; try (with_reducible (first | exact ⟨rfl, hS, hE⟩ | rfl)); done)); simp only [Act.put, List.setIfInBounds_toArray, List.set_cons_zero, List.set_cons_succ]))
        refine flow2_nil ?_
        intro wT hE hS
        have HT := Lib.hid (HQ.out.trans (hS.mono HQ.out.size))
        clear hE hS
        go_wp2_with fail
        go_roundw
        case rel => exact ⟨k + 1, by omega, by go_num, (by obtain rfl : k = 0 := (by omega); exact HN.out), HT.out⟩
        case measure => simp [intOf]; omega
    · have hltI : ¬ (k : Int) < (l.length : Int) := by omega
      obtain rfl : k = l.length := by omega
      have HS2 := HS.out
      rw [List.take_length] at HS2
      have HS3 := Lib.hid HS2
      clear HS2
      go_wp2_with fail
      go_returns
      exact ⟨true, rfl, ⟨fun _ => HS3.out, fun _ => rfl⟩, HQ.out⟩
set_option maxHeartbeats 8000000 in
theorem ri_Fl {l : List Fl} {v : Value} {B : Nat} {w : World} (h : Rs w B v l) :
    Calls Tryz.prog 60 #[v, .func (.func 43) #[] #[]] w (IsV (Srt kF lF l) w) := by
  obtain ⟨A, cap, rfl, hlc, hcap⟩ := h.any
  have HR := Lib.hid h
  clear h
  have hm63 : maxLen = 9223372036854775807 := rfl
  go_enter Tryz.func60, Tryz.ntmps60
  go_wp2_with fail
  go_loopw [8] (fun i wq => ∃ k : Nat, k ≤ l.length ∧ i = .int .i64 k ∧ Srt kF lF (l.take k) ∧ Below w.heap.size w wq) (fun i _ => l.length - (intOf i).toNat)
  case atStart => exact ⟨0, by omega, rfl, .nil, Below.refl _ _⟩
  case round =>
    obtain ⟨k, hk, rfl, hs, hbq⟩ := hrel
    have HQ := Lib.hid hbq
    have HS := Lib.hid hs
    clear hbq hs
    by_cases hlt : k < l.length
    · have hltI : (k : Int) < (l.length : Int) := by omega
      by_cases h0 : 0 < k
      · have h0I : (0 : Int) < (k : Int) := by omega
        have hp : k - 1 < l.length := by omega
        obtain ⟨b, off, cap', he, _, _⟩ := HR.out.shape (by omega)
        cases he
        have HE := Lib.hid (rangeAt_below (HR.out.range hlt) (HR.out.lt b rfl) HQ.out)
        have HE1 := Lib.hid (rangeAt_below (HR.out.range hp) (HR.out.lt b rfl) HQ.out)
        have HBL := Lib.hid (Nat.lt_of_lt_of_le (HR.out.lt b rfl) HQ.out.size)
        have HN := Lib.hid (fun hx => srt_next lF_lin hlt h0 hx HS.out)
        have HB0 := Lib.hid (fun hx => srt_break (k := kF) (lt := lF) hlt h0 hx)
        obtain ⟨j, hj⟩ : ∃ j : Nat, j = k - 1 := ⟨_, rfl⟩
        have hjI : IntKind.i64.wrap ((k : Int) - 1) = (j : Int) := by rw [IntWalk.i64_in _ (by omega)]; omega
        have hjlI : (j : Int) < (l.length : Int) := by omega
        have hjl : j < l.length := by omega
        simp only [← hj] at HE1 HN HB0
        have H3 := Lib.hid (c3_geq (lt := lF) (kF (l[j]'hjl)) (kF l[k]))
        generalize (l[j]'hjl) = xj at HE1 HN HB0 H3
        generalize (l[k]'hlt) = xk at HE HN HB0 H3
        clear hj
        go_wp2_with fail
        refine wp_region_flow2_lit [(0, false), (1, false), (2, false), (3, false), (4, false), (5, false), (6, false), (7, false), (8, false), (9, false), (10, false), (11, false), (12, false), (13, false), (14, false), (15, false)] (fun wS => Below wr.heap.size wr wS) (by kernel_rfl) (by kernel_rfl) (by kernel_rfl) (Below.refl _ _).drew ?_
        repeat (first | (refine' flow2_pass (o := _) rfl _ _; (focus rfl); simp only [Act.put, List.setIfInBounds_toArray, List.set_cons_zero, List.set_cons_succ]) | (refine' flow2_take (v := _) (o := _) rfl _ _ _; rotate_left; (focus rfl); (focus (intro wS hS; have hE := Ext.refl wS; (skip); go_simp; try (with_reducible (first | exact ⟨rfl, hS, hE⟩ | rfl)); done)); simp only [Act.put, List.setIfInBounds_toArray, List.set_cons_zero, List.set_cons_succ]))
        (refine flow2_take (v := .agg (arr xj)) (o := _) rfl rfl (fun wS hS => gives_row rfl rfl (rangeAt_below HE1.out HBL.out hS) ⟨hS, Ext.refl wS⟩) ?_; simp only [Act.put, List.setIfInBounds_toArray, List.set_cons_zero, List.set_cons_succ])
        repeat (first | (refine' flow2_pass (o := _) rfl _ _; (focus rfl); simp only [Act.put, List.setIfInBounds_toArray, List.set_cons_zero, List.set_cons_succ]) | (refine' flow2_take (v := _) (o := _) rfl _ _ _; rotate_left; (focus rfl); (focus (intro wS hS; have hE := Ext.refl wS; (skip); go_simp; try (with_reducible (first | exact ⟨rfl, hS, hE⟩ | rfl)); done)); simp only [Act.put, List.setIfInBounds_toArray, List.set_cons_zero, List.set_cons_succ]))
        (refine flow2_take (v := .agg (arr xk)) (o := _) rfl rfl (fun wS hS => gives_row rfl rfl (rangeAt_below HE.out HBL.out hS) ⟨hS, Ext.refl wS⟩) ?_; simp only [Act.put, List.setIfInBounds_toArray, List.set_cons_zero, List.set_cons_succ])
        (refine' flow2_take (v := _) (o := _) rfl _ _ _; rotate_left; (focus rfl); (focus (intro wS hS; go_simp; refine (cached_any _ _ _).mono ?_; rintro e w' ⟨rfl, hb⟩; refine ⟨?_, hS.trans (hb.mono hS.size), hb⟩; rfl)); simp only [Act.put, List.setIfInBounds_toArray, List.set_cons_zero, List.set_cons_succ])
        repeat (first | (refine' flow2_pass (o := _) rfl _ _; (focus rfl); simp only [Act.put, List.setIfInBounds_toArray, List.set_cons_zero, List.set_cons_succ]) | (refine' flow2_take (v := _) (o := _) rfl _ _ _; rotate_left; (focus rfl); (focus (intro wS hS; have hE := Ext.refl wS; (skip); go_simp; try (with_reducible (first | exact ⟨rfl, hS, hE⟩ | rfl)); done)); simp only [Act.put, List.setIfInBounds_toArray, List.set_cons_zero, List.set_cons_succ]))
        refine flow2_nil ?_
        intro wT hE hS
        have HT := Lib.hid (HQ.out.trans (hS.mono HQ.out.size))
        clear hE hS
        cases hx : lF (kF xj) (kF xk) with
        | true =>
          have h3 : ¬ 0 ≤ c3 lF (kF xj) (kF xk) := of_decide_eq_false (H3.out.trans (by rw [hx]; rfl))
          have HN2 := Lib.hid (HN.out hx)
          clear hx
          go_wp2_with fail
          go_roundw
          case rel => exact ⟨k + 1, by omega, by go_num, HN2.out, HT.out⟩
          case measure => simp [intOf]; omega
        | false =>
          have h3 : 0 ≤ c3 lF (kF xj) (kF xk) := of_decide_eq_true (H3.out.trans (by rw [hx]; rfl))
          have HB2 := Lib.hid (HB0.out hx)
          clear hx
          go_wp2_with fail
          go_returns
          exact ⟨false, rfl, ⟨fun h => (nomatch h), fun h => absurd h HB2.out⟩, HT.out⟩
      · have h0I : ¬ (0 : Int) < (k : Int) := by omega
        have HN := Lib.hid (srt_first (k := kF) (lt := lF) (l := l) (by omega))
        go_wp2_with fail
        refine wp_region_flow2_lit [(0, false), (1, false), (2, false), (3, false), (4, false), (5, false), (6, false), (7, false), (8, false), (9, false), (10, false), (11, false), (12, false), (13, false), (14, false), (15, false)] (fun wS => Below wr.heap.size wr wS) (by kernel_rfl) (by kernel_rfl) (by kernel_rfl) (Below.refl _ _).drew ?_
        repeat (first | (refine' flow2_pass (o := _) rfl _ _; (focus rfl); simp only [Act.put, List.setIfInBounds_toArray, List.set_cons_zero, List.set_cons_succ]) | (refine' flow2_take (v := _) (o := _) rfl _ _ _; rotate_left; (focus rfl); (focus (intro wS hS; have hE := Ext.refl wS; (skip); go_simp; try (with_reducible (first | exact ⟨rfl, hS, hE⟩ | rfl)); done)); simp only [Act.put, List.setIfInBounds_toArray, List.set_cons_zero, List.set_cons_succ]))
        refine flow2_nil ?_
        intro wT hE hS
        have HT := Lib.hid (HQ.out.trans (hS.mono HQ.out.size))
        clear hE hS
        go_wp2_with fail
        go_roundw
        case rel => exact ⟨k + 1, by omega, by go_num, (by obtain rfl : k = 0 := (by omega); exact HN.out), HT.out⟩
        case measure => simp [intOf]; omega
    · have hltI : ¬ (k : Int) < (l.length : Int) := by omega
      obtain rfl : k = l.length := by omega
      have HS2 := HS.out
      rw [List.take_length] at HS2
      have HS3 := Lib.hid HS2
      clear HS2
      go_wp2_with fail
      go_returns
      exact ⟨true, rfl, ⟨fun _ => HS3.out, fun _ => rfl⟩, HQ.out⟩
set_option maxHeartbeats 8000000 in
theorem ri_Nm {l : List Nm} {v : Value} {B : Nat} {w : World} (h : Rs w B v l) :
    Calls Tryz.prog 61 #[v, .func (.func 45) #[] #[]] w (IsV (Srt kN lN l) w) := by
  obtain ⟨A, cap, rfl, hlc, hcap⟩ := h.any
  have HR := Lib.hid h
  clear h
  have hm63 : maxLen = 9223372036854775807 := rfl
  go_enter Tryz.func61, Tryz.ntmps61
  go_wp2_with fail
  go_loopw [8] (fun i wq => ∃ k : Nat, k ≤ l.length ∧ i = .int .i64 k ∧ Srt kN lN (l.take k) ∧ Below w.heap.size w wq) (fun i _ => l.length - (intOf i).toNat)
  case atStart => exact ⟨0, by omega, rfl, .nil, Below.refl _ _⟩
  case round =>
    obtain ⟨k, hk, rfl, hs, hbq⟩ := hrel
    have HQ := Lib.hid hbq
    have HS := Lib.hid hs
    clear hbq hs
    by_cases hlt : k < l.length
    · have hltI : (k : Int) < (l.length : Int) := by omega
      by_cases h0 : 0 < k
      · have h0I : (0 : Int) < (k : Int) := by omega
        have hp : k - 1 < l.length := by omega
        obtain ⟨b, off, cap', he, _, _⟩ := HR.out.shape (by omega)
        cases he
        have HE := Lib.hid (rangeAt_below (HR.out.range hlt) (HR.out.lt b rfl) HQ.out)
        have HE1 := Lib.hid (rangeAt_below (HR.out.range hp) (HR.out.lt b rfl) HQ.out)
        have HBL := Lib.hid (Nat.lt_of_lt_of_le (HR.out.lt b rfl) HQ.out.size)
        have HN := Lib.hid (fun hx => srt_next lN_lin hlt h0 hx HS.out)
        have HB0 := Lib.hid (fun hx => srt_break (k := kN) (lt := lN) hlt h0 hx)
        obtain ⟨j, hj⟩ : ∃ j : Nat, j = k - 1 := ⟨_, rfl⟩
        have hjI : IntKind.i64.wrap ((k : Int) - 1) = (j : Int) := by rw [IntWalk.i64_in _ (by omega)]; omega
        have hjlI : (j : Int) < (l.length : Int) := by omega
        have hjl : j < l.length := by omega
        simp only [← hj] at HE1 HN HB0
        have H3 := Lib.hid (c3_geq (lt := lN) (kN (l[j]'hjl)) (kN l[k]))
        generalize (l[j]'hjl) = xj at HE1 HN HB0 H3
        generalize (l[k]'hlt) = xk at HE HN HB0 H3
        clear hj
        go_wp2_with fail
        refine wp_region_flow2_lit [(0, false), (1, false), (2, false), (3, false), (4, false), (5, false), (6, false), (7, false), (8, false), (9, false), (10, false), (11, false), (12, false), (13, false), (14, false), (15, false)] (fun wS => Below wr.heap.size wr wS) (by kernel_rfl) (by kernel_rfl) (by kernel_rfl) (Below.refl _ _).drew ?_
        repeat (first | (refine' flow2_pass (o := _) rfl _ _; (focus rfl); simp only [Act.put, List.setIfInBounds_toArray, List.set_cons_zero, List.set_cons_succ]) | (refine' flow2_take (v := _) (o := _) rfl _ _ _; rotate_left; (focus rfl); (focus (intro wS hS; have hE := Ext.refl wS; (skip); go_simp; try (with_reducible (first | exact ⟨rfl, hS, hE⟩ | rfl)); done)); simp only [Act.put, List.setIfInBounds_toArray, List.set_cons_zero, List.set_cons_succ]))
        (refine flow2_take (v := .agg (arr xj)) (o := _) rfl rfl (fun wS hS => gives_row rfl rfl (rangeAt_below HE1.out HBL.out hS) ⟨hS, Ext.refl wS⟩) ?_; simp only [Act.put, List.setIfInBounds_toArray, List.set_cons_zero, List.set_cons_succ])
        repeat (first | (refine' flow2_pass (o := _) rfl _ _; (focus rfl); simp only [Act.put, List.setIfInBounds_toArray, List.set_cons_zero, List.set_cons_succ]) | (refine' flow2_take (v := _) (o := _) rfl _ _ _; rotate_left; (focus rfl); (focus (intro wS hS; have hE := Ext.refl wS; (skip); go_simp; try (with_reducible (first | exact ⟨rfl, hS, hE⟩ | rfl)); done)); simp only [Act.put, List.setIfInBounds_toArray, List.set_cons_zero, List.set_cons_succ]))
        (refine flow2_take (v := .agg (arr xk)) (o := _) rfl rfl (fun wS hS => gives_row rfl rfl (rangeAt_below HE.out HBL.out hS) ⟨hS, Ext.refl wS⟩) ?_; simp only [Act.put, List.setIfInBounds_toArray, List.set_cons_zero, List.set_cons_succ])
        (refine' flow2_take (v := _) (o := _) rfl _ _ _; rotate_left; (focus rfl); (focus (intro wS hS; go_simp; refine (known_any _ _ _).mono ?_; rintro e w' ⟨rfl, hb⟩; refine ⟨?_, hS.trans (hb.mono hS.size), hb⟩; rfl)); simp only [Act.put, List.setIfInBounds_toArray, List.set_cons_zero, List.set_cons_succ])
        repeat (first | (refine' flow2_pass (o := _) rfl _ _; (focus rfl); simp only [Act.put, List.setIfInBounds_toArray, List.set_cons_zero, List.set_cons_succ]) | (refine' flow2_take (v := _) (o := _) rfl _ _ _; rotate_left; (focus rfl); (focus (intro wS hS; have hE := Ext.refl wS; (skip); go_simp; try (with_reducible (first | exact ⟨rfl, hS, hE⟩ | rfl)); done)); simp only [Act.put, List.setIfInBounds_toArray, List.set_cons_zero, List.set_cons_succ]))
        refine flow2_nil ?_
        intro wT hE hS
        have HT := Lib.hid (HQ.out.trans (hS.mono HQ.out.size))
        clear hE hS
        cases hx : lN (kN xj) (kN xk) with
        | true =>
          have h3 : ¬ 0 ≤ c3 lN (kN xj) (kN xk) := of_decide_eq_false (H3.out.trans (by rw [hx]; rfl))
          have HN2 := Lib.hid (HN.out hx)
          clear hx
          go_wp2_with fail
          go_roundw
          case rel => exact ⟨k + 1, by omega, by go_num, HN2.out, HT.out⟩
          case measure => simp [intOf]; omega
        | false =>
          have h3 : 0 ≤ c3 lN (kN xj) (kN xk) := of_decide_eq_true (H3.out.trans (by rw [hx]; rfl))
          have HB2 := Lib.hid (HB0.out hx)
          clear hx
          go_wp2_with fail
          go_returns
          exact ⟨false, rfl, ⟨fun h => (nomatch h), fun h => absurd h HB2.out⟩, HT.out⟩
      · have h0I : ¬ (0 : Int) < (k : Int) := by omega
        have HN := Lib.hid (srt_first (k := kN) (lt := lN) (l := l) (by omega))
        go_wp2_with fail
        refine wp_region_flow2_lit [(0, false), (1, false), (2, false), (3, false), (4, false), (5, false), (6, false), (7, false), (8, false), (9, false), (10, false), (11, false), (12, false), (13, false), (14, false), (15, false)] (fun wS => Below wr.heap.size wr wS) (by kernel_rfl) (by kernel_rfl) (by kernel_rfl) (Below.refl _ _).drew ?_
        repeat (first | (refine' flow2_pass (o := _) rfl _ _; (focus rfl); simp only [Act.put, List.setIfInBounds_toArray, List.set_cons_zero, List.set_cons_succ]) | (refine' flow2_take (v := _) (o := _) rfl _ _ _; rotate_left; (focus rfl); (focus (intro wS hS; have hE := Ext.refl wS; (skip); go_simp; try (with_reducible (first | exact ⟨rfl, hS, hE⟩ | rfl)); done)); simp only [Act.put, List.setIfInBounds_toArray, List.set_cons_zero, List.set_cons_succ]))
        refine flow2_nil ?_
        intro wT hE hS
        have HT := Lib.hid (HQ.out.trans (hS.mono HQ.out.size))
        clear hE hS
        go_wp2_with fail
        go_roundw
        case rel => exact ⟨k + 1, by omega, by go_num, (by obtain rfl : k = 0 := (by omega); exact HN.out), HT.out⟩
        case measure => simp [intOf]; omega
    · have hltI : ¬ (k : Int) < (l.length : Int) := by omega
      obtain rfl : k = l.length := by omega
      have HS2 := HS.out
      rw [List.take_length] at HS2
      have HS3 := Lib.hid HS2
      clear HS2
      go_wp2_with fail
      go_returns
      exact ⟨true, rfl, ⟨fun _ => HS3.out, fun _ => rfl⟩, HQ.out⟩
set_option maxHeartbeats 8000000 in
theorem ri_Bl {l : List Bl} {v : Value} {B : Nat} {w : World} (h : Rs w B v l) :
    Calls Tryz.prog 62 #[v, .func (.func 47) #[] #[]] w (IsV (Srt kB lB l) w) := by
  obtain ⟨A, cap, rfl, hlc, hcap⟩ := h.any
  have HR := Lib.hid h
  clear h
  have hm63 : maxLen = 9223372036854775807 := rfl
  go_enter Tryz.func62, Tryz.ntmps62
  go_wp2_with fail
  go_loopw [8] (fun i wq => ∃ k : Nat, k ≤ l.length ∧ i = .int .i64 k ∧ Srt kB lB (l.take k) ∧ Below w.heap.size w wq) (fun i _ => l.length - (intOf i).toNat)
  case atStart => exact ⟨0, by omega, rfl, .nil, Below.refl _ _⟩
  case round =>
    obtain ⟨k, hk, rfl, hs, hbq⟩ := hrel
    have HQ := Lib.hid hbq
    have HS := Lib.hid hs
    clear hbq hs
    by_cases hlt : k < l.length
    · have hltI : (k : Int) < (l.length : Int) := by omega
      by_cases h0 : 0 < k
      · have h0I : (0 : Int) < (k : Int) := by omega
        have hp : k - 1 < l.length := by omega
        obtain ⟨b, off, cap', he, _, _⟩ := HR.out.shape (by omega)
        cases he
        have HE := Lib.hid (rangeAt_below (HR.out.range hlt) (HR.out.lt b rfl) HQ.out)
        have HE1 := Lib.hid (rangeAt_below (HR.out.range hp) (HR.out.lt b rfl) HQ.out)
        have HBL := Lib.hid (Nat.lt_of_lt_of_le (HR.out.lt b rfl) HQ.out.size)
        have HN := Lib.hid (fun hx => srt_next lB_lin hlt h0 hx HS.out)
        have HB0 := Lib.hid (fun hx => srt_break (k := kB) (lt := lB) hlt h0 hx)
        obtain ⟨j, hj⟩ : ∃ j : Nat, j = k - 1 := ⟨_, rfl⟩
        have hjI : IntKind.i64.wrap ((k : Int) - 1) = (j : Int) := by rw [IntWalk.i64_in _ (by omega)]; omega
        have hjlI : (j : Int) < (l.length : Int) := by omega
        have hjl : j < l.length := by omega
        simp only [← hj] at HE1 HN HB0
        have H3 := Lib.hid (c3_geq (lt := lB) (kB (l[j]'hjl)) (kB l[k]))
        generalize (l[j]'hjl) = xj at HE1 HN HB0 H3
        generalize (l[k]'hlt) = xk at HE HN HB0 H3
        clear hj
        go_wp2_with fail
        refine wp_region_flow2_lit [(0, false), (1, false), (2, false), (3, false), (4, false), (5, false), (6, false), (7, false), (8, false), (9, false), (10, false), (11, false), (12, false), (13, false), (14, false), (15, false)] (fun wS => Below wr.heap.size wr wS) (by kernel_rfl) (by kernel_rfl) (by kernel_rfl) (Below.refl _ _).drew ?_
        repeat (first | (refine' flow2_pass (o := _) rfl _ _; (focus rfl); simp only [Act.put, List.setIfInBounds_toArray, List.set_cons_zero, List.set_cons_succ]) | (refine' flow2_take (v := _) (o := _) rfl _ _ _; rotate_left; (focus rfl); (focus (intro wS hS; have hE := Ext.refl wS; (skip); go_simp; try (with_reducible (first | exact ⟨rfl, hS, hE⟩ | rfl)); done)); simp only [Act.put, List.setIfInBounds_toArray, List.set_cons_zero, List.set_cons_succ]))
        (refine flow2_take (v := .agg (arr xj)) (o := _) rfl rfl (fun wS hS => gives_row rfl rfl (rangeAt_below HE1.out HBL.out hS) ⟨hS, Ext.refl wS⟩) ?_; simp only [Act.put, List.setIfInBounds_toArray, List.set_cons_zero, List.set_cons_succ])
        repeat (first | (refine' flow2_pass (o := _) rfl _ _; (focus rfl); simp only [Act.put, List.setIfInBounds_toArray, List.set_cons_zero, List.set_cons_succ]) | (refine' flow2_take (v := _) (o := _) rfl _ _ _; rotate_left; (focus rfl); (focus (intro wS hS; have hE := Ext.refl wS; (skip); go_simp; try (with_reducible (first | exact ⟨rfl, hS, hE⟩ | rfl)); done)); simp only [Act.put, List.setIfInBounds_toArray, List.set_cons_zero, List.set_cons_succ]))
        (refine flow2_take (v := .agg (arr xk)) (o := _) rfl rfl (fun wS hS => gives_row rfl rfl (rangeAt_below HE.out HBL.out hS) ⟨hS, Ext.refl wS⟩) ?_; simp only [Act.put, List.setIfInBounds_toArray, List.set_cons_zero, List.set_cons_succ])
        (refine' flow2_take (v := _) (o := _) rfl _ _ _; rotate_left; (focus rfl); (focus (intro wS hS; go_simp; refine (placed_any _ _ _).mono ?_; rintro e w' ⟨rfl, hb⟩; refine ⟨?_, hS.trans (hb.mono hS.size), hb⟩; rfl)); simp only [Act.put, List.setIfInBounds_toArray, List.set_cons_zero, List.set_cons_succ])
        repeat (first | (refine' flow2_pass (o := _) rfl _ _; (focus rfl); simp only [Act.put, List.setIfInBounds_toArray, List.set_cons_zero, List.set_cons_succ]) | (refine' flow2_take (v := _) (o := _) rfl _ _ _; rotate_left; (focus rfl); (focus (intro wS hS; have hE := Ext.refl wS; (skip); go_simp; try (with_reducible (first | exact ⟨rfl, hS, hE⟩ | rfl)); done)); simp only [Act.put, List.setIfInBounds_toArray, List.set_cons_zero, List.set_cons_succ]))
        refine flow2_nil ?_
        intro wT hE hS
        have HT := Lib.hid (HQ.out.trans (hS.mono HQ.out.size))
        clear hE hS
        cases hx : lB (kB xj) (kB xk) with
        | true =>
          have h3 : ¬ 0 ≤ c3 lB (kB xj) (kB xk) := of_decide_eq_false (H3.out.trans (by rw [hx]; rfl))
          have HN2 := Lib.hid (HN.out hx)
          clear hx
          go_wp2_with fail
          go_roundw
          case rel => exact ⟨k + 1, by omega, by go_num, HN2.out, HT.out⟩
          case measure => simp [intOf]; omega
        | false =>
          have h3 : 0 ≤ c3 lB (kB xj) (kB xk) := of_decide_eq_true (H3.out.trans (by rw [hx]; rfl))
          have HB2 := Lib.hid (HB0.out hx)
          clear hx
          go_wp2_with fail
          go_returns
          exact ⟨false, rfl, ⟨fun h => (nomatch h), fun h => absurd h HB2.out⟩, HT.out⟩
      · have h0I : ¬ (0 : Int) < (k : Int) := by omega
        have HN := Lib.hid (srt_first (k := kB) (lt := lB) (l := l) (by omega))
        go_wp2_with fail
        refine wp_region_flow2_lit [(0, false), (1, false), (2, false), (3, false), (4, false), (5, false), (6, false), (7, false), (8, false), (9, false), (10, false), (11, false), (12, false), (13, false), (14, false), (15, false)] (fun wS => Below wr.heap.size wr wS) (by kernel_rfl) (by kernel_rfl) (by kernel_rfl) (Below.refl _ _).drew ?_
        repeat (first | (refine' flow2_pass (o := _) rfl _ _; (focus rfl); simp only [Act.put, List.setIfInBounds_toArray, List.set_cons_zero, List.set_cons_succ]) | (refine' flow2_take (v := _) (o := _) rfl _ _ _; rotate_left; (focus rfl); (focus (intro wS hS; have hE := Ext.refl wS; (skip); go_simp; try (with_reducible (first | exact ⟨rfl, hS, hE⟩ | rfl)); done)); simp only [Act.put, List.setIfInBounds_toArray, List.set_cons_zero, List.set_cons_succ]))
        refine flow2_nil ?_
        intro wT hE hS
        have HT := Lib.hid (HQ.out.trans (hS.mono HQ.out.size))
        clear hE hS
        go_wp2_with fail
        go_roundw
        case rel => exact ⟨k + 1, by omega, by go_num, (by obtain rfl : k = 0 := (by omega); exact HN.out), HT.out⟩
        case measure => simp [intOf]; omega
    · have hltI : ¬ (k : Int) < (l.length : Int) := by omega
      obtain rfl : k = l.length := by omega
      have HS2 := HS.out
      rw [List.take_length] at HS2
      have HS3 := Lib.hid HS2
      clear HS2
      go_wp2_with fail
      go_returns
      exact ⟨true, rfl, ⟨fun _ => HS3.out, fun _ => rfl⟩, HQ.out⟩
end Go.Proofs.YtokhnbdhcehonaaGreat
/- index: what the texts on unlike want. -/
namespace Go.Proofs.YtokhnbdhcehonaaGreat
open Go Go.RowKit Row Go.Maps Go.WideShapes Go.ChangeMaps Go.WideMaps Go.MapKept
def heldR : Value → Option (DataW Value × List MemPlace) := fun v => some (.held v, [])
def inS {κ : Type} [DecidableEq κ] (S : List κ) (k : κ) : Bool := S.any fun j => decide (j = k)
theorem inS_iff {κ : Type} [DecidableEq κ] {S : List κ} {k : κ} : inS S k = true ↔ k ∈ S := by simp [inS]
theorem in_twice {α κ : Type} [DecidableEq κ] {f : α → κ} {l : List α} {k : Nat} (hk : k < l.length) (h : inS ((l.take k).map f) (f l[k]) = true) : ¬ (l.map f).Nodup := fun hn => by
  obtain ⟨y, hy, he⟩ := List.mem_map.1 (inS_iff.1 h)
  obtain ⟨j, hj, rfl⟩ := List.mem_take_iff_getElem.1 hy
  have := List.pairwise_iff_getElem.1 hn j k (by rw [List.length_map]; omega) (by rw [List.length_map]; omega) (by omega)
  simp only [List.getElem_map] at this
  exact this he
theorem nodup_one {κ : Type} [DecidableEq κ] {S : List κ} {k : κ} (hn : S.Nodup) (h : inS S k = false) : (S ++ [k]).Nodup := by
  rw [List.nodup_append]
  refine ⟨hn, List.pairwise_singleton _ _, fun a ha b hb e => ?_⟩
  rw [List.mem_singleton.1 hb] at e
  subst e
  rw [inS_iff.2 ha] at h; cases h
theorem bel_box' {w : World} {o : Obj} : Below w.heap.size w (w.alloc o) := by go_grown
end Go.Proofs.YtokhnbdhcehonaaGreat
/- index: index.unlike (printed by gen_bs.py off its template). -/
namespace Go.Proofs.YtokhnbdhcehonaaGreat
open Go Go.RowKit Row Go.Maps Go.WideShapes Go.ChangeMaps Go.WideMaps Go.MapKept
set_option maxRecDepth 100000
namespace UHd
def kl (k : ByteArray) : Lit := .string k.data.toList
def kok (k : ByteArray) : Prop := k.size ≤ maxLen
theorem law : Keyed Tryz.prog 9 := string_keyed Tryz.underlying9
theorem key_of {k : ByteArray} (h : kok k) : keyOf Tryz.prog 9 (.string k) = some (kl k) := keyOf_string_mk Tryz.underlying9 h
theorem key_lit (k : ByteArray) : WideAt.IsKeyLit (kl k) := by trivial
theorem kl_inj {a b : ByteArray} (h : kl a = kl b) : a = b := by
  unfold kl at h; cases a; cases b; simp only [Lit.string.injEq] at h; congr; exact Array.ext' h
theorem zeroI (w : World) : (zeroValue 3).run Tryz.prog w = .ok (.int .i64 0) w := by kernel_rfl
/-- the map at block mb has the keys S -/
def SetP (w : World) (mb : Nat) (S : List ByteArray) : Prop := ∃ (D : DataW Value), w.ownsMap Tryz.prog 9 heldR mb S.length D ∧ (∀ k, has D (kl k) = inS S k)
section
variable {w w' : World} {mb : Nat} {S : List ByteArray}
theorem SetP.of (h : SetP w mb S) (hb : w'.heap[mb]? = w.heap[mb]?) : SetP w' mb S := by
  obtain ⟨D, ⟨es, ck, hh, r⟩, hD⟩ := h
  exact ⟨D, ⟨es, ck, hb.trans hh, r⟩, hD⟩
theorem SetP.lt (h : SetP w mb S) : mb < w.heap.size := by
  obtain ⟨D, hh, _⟩ := h
  exact hh.lt
theorem SetP.look (h : SetP w mb S) {k : ByteArray} (hk : kok k) : ∃ v, (Instr.lookup 128 (.map (some mb)) (.string k) true).run Tryz.prog w = .ok (.tuple #[v, .bool (inS S k)]) w := by
  obtain ⟨D, hown, hh⟩ := h
  obtain ⟨v, ps, hrun, hv⟩ := hown.look_ok law Tryz.underlying128 (zeroI w) (zd := .held (.int .i64 0)) (zp := []) rfl (key_of hk)
  exact ⟨v, by rw [hrun, hh]⟩
theorem SetP.put (h : SetP w mb S) {k : ByteArray} (hk : kok k) (hl : S.length < 1000000) (v : Value) :
    ∃ w', (Instr.mapUpdate 128 (.map (some mb)) (.string k) v).run Tryz.prog w = .ok () w' ∧ SetP w' mb (S ++ [k]) ∧ w.mapTurned w' mb := by
  obtain ⟨D, hown, hh⟩ := h
  obtain ⟨w', hrun, hown', hturn⟩ := hown.store law Tryz.underlying128 (by unfold maxLen; omega) (val := v) (key_of hk) (d := .held v) (ps := []) rfl
  refine ⟨w', hrun, ⟨_, by rw [List.length_append]; exact hown', fun j => ?_⟩, hturn⟩
  by_cases hj : j = k
  · subst hj
    rw [has_put_same hown.isMap (key_lit _)]
    simp [inS]
  · rw [has_put_other (fun e => hj (kl_inj e)), hh]
    simp [inS, Ne.symm hj]
end
end UHd
theorem uof_Hd (x : Hd) (w : World) : Calls Tryz.prog 64 #[.agg (arr x)] w fun e w' => e = .returned (.string x.up) ∧ Below w.heap.size w w' := by
  have y2 : (w.alloc (.cells (arr x) 40)).cell? ⟨w.heap.size, 2, none⟩ = some (.string x.up) := by rw [row_cell (heap_alloc_new w _)]; rfl
  have HB : Hid (Below w.heap.size w (w.alloc (.cells (arr x) 40))) := Lib.hid (by go_grown)
  go_enter Tryz.func64, Tryz.ntmps64
  go_wp2_with fail
  go_ret
  exact ⟨rfl, HB.out⟩
set_option maxHeartbeats 8000000 in
theorem un_Hd {l : List Hd} {v : Value} {w : World} (h : Rs w 0 v l) (hlen : l.length ≤ 1000) (hok : ∀ x ∈ l, UHd.kok x.up) :
    Calls Tryz.prog 63 #[v, .func (.func 64) #[] #[]] w (IsV ((l.map (·.up)).Nodup) w) := by
  obtain ⟨A, cap, rfl, hlc, hcap⟩ := h.any
  have HR := Lib.hid h
  have HOK := Lib.hid hok
  have HMK := Lib.hid (World.ownsMap_made w Tryz.prog 9 heldR)
  have hmm := @run_makeMap Tryz.prog
  clear h hok
  have hm63 : maxLen = 9223372036854775807 := rfl
  go_enter Tryz.func63, Tryz.ntmps63
  go_wp2_with fail
  go_loopw [13] (fun i wq => ∃ k : Nat, k ≤ l.length ∧ i = .int .i64 k ∧ UHd.SetP wq w.heap.size ((l.take k).map (·.up)) ∧ ((l.take k).map (·.up)).Nodup ∧ Below w.heap.size w wq) (fun i _ => l.length - (intOf i).toNat)
  case atStart => exact ⟨0, by omega, rfl, ⟨_, HMK.out, fun k => rfl⟩, .nil, by go_grown⟩
  case round =>
    obtain ⟨k, hk, rfl, hsp, hnd, hbq⟩ := hrel
    have HQ := Lib.hid hbq
    have HS := Lib.hid hsp
    have HD := Lib.hid hnd
    clear hbq hsp hnd
    by_cases hlt : k < l.length
    · have hltI : (k : Int) < (l.length : Int) := by omega
      obtain ⟨b, off, cap', he, _, _⟩ := HR.out.shape (by omega)
      cases he
      have HE := Lib.hid (rangeAt_below (HR.out.range hlt) (HR.out.lt b rfl) HQ.out)
      have HT : Hid ((l.take (k + 1)).map (·.up) = (l.take k).map (·.up) ++ [l[k].up]) := Lib.hid (by rw [List.take_succ_eq_append_getElem hlt, List.map_append]; rfl)
      have HKO := Lib.hid (HOK.out _ (List.getElem_mem hlt))
      have HNO : Hid (inS ((l.take k).map (·.up)) l[k].up = true → ¬ (l.map (·.up)).Nodup) := Lib.hid (in_twice hlt)
      have HYE : Hid (inS ((l.take k).map (·.up)) l[k].up = false → ((l.take k).map (·.up) ++ [l[k].up]).Nodup) := Lib.hid (fun hx => nodup_one HD.out hx)
      have HSL : Hid (((l.take k).map (·.up)).length < 1000000) := Lib.hid (by rw [List.length_map, List.length_take]; omega)
      generalize (l.take k).map (·.up) = S at *
      generalize l[k] = x at *
      go_wp2_with (first
        | (refine rw_alloc (α := Hd) rfl rfl ?_)
        | (refine rw_store (α := Hd) rfl (.tmp 7) (.tmp 17) rfl wr.heap.size x _ (arr_size _) rfl rfl (heap_alloc_new _ _) ?_; intro w5 hb5 hg5 hs5; have HX := Lib.hid hb5; have HB5 := Lib.hid (bel_box'.grown hg5 bel_box'.size (fun j hj => by cases hj; exact Nat.le_refl _)); clear hb5 hg5 hs5)
        | (refine rw_load (α := Hd) rfl (.tmp 16) rfl b (off + k * 3) rfl x HE.out ?_)
        | (refine rw_load (α := Hd) rfl (.tmp 7) rfl wr.heap.size 0 rfl x (range_row HX.out) ?_))
      refine (uof_Hd x _).mono ?_
      rintro e w1 ⟨rfl, hb1⟩
      have HS1 := Lib.hid ((HS.out.of (HB5.out.block _ HS.out.lt)).of (hb1.block _ (Nat.lt_of_lt_of_le HS.out.lt HB5.out.size)))
      have HQ1 := Lib.hid (HQ.out.trans ((HB5.out.trans (hb1.mono HB5.out.size)).mono HQ.out.size))
      obtain ⟨v, hlook⟩ := HS1.out.look HKO.out
      have HX1 := Lib.hid ((hb1.block _ (heap_lt HX.out)).trans HX.out)
      clear hb1
      generalize inS S x.up = r at *
      cases r with
      | true =>
        have HN2 := Lib.hid (HNO.out rfl)
        clear HNO HYE
        go_wp2_with fail
        go_returns
        exact ⟨false, rfl, ⟨fun h => (nomatch h), fun h => absurd h HN2.out⟩, HQ1.out⟩
      | false =>
        have HY2 := Lib.hid (HYE.out rfl)
        clear HNO HYE
        go_wp2_with (first
          | (refine rw_load (α := Hd) rfl (.tmp 7) rfl wr.heap.size 0 rfl x (range_row HX1.out) ?_))
        refine (uof_Hd x _).mono ?_
        rintro e w2 ⟨rfl, hb2⟩
        have HS2 := Lib.hid (HS1.out.of (hb2.block _ HS1.out.lt))
        have HQ2 := Lib.hid (HQ1.out.trans (hb2.mono HQ1.out.size))
        obtain ⟨w3, hput, hs3, ht3⟩ := HS2.out.put HKO.out HSL.out (.int .i64 k)
        have HS3 := Lib.hid hs3
        have HQ3 := Lib.hid (HQ2.out.grown ht3.grown HQ2.out.size (fun j hj => by cases hj; exact Nat.le_refl _))
        clear hb2 hs3 ht3 hlook
        go_wp2_with fail
        go_roundw
        case rel => exact ⟨k + 1, by omega, by go_num, by rw [HT.out]; exact HS3.out, by rw [HT.out]; exact HY2.out, HQ3.out⟩
        case measure => simp [intOf]; omega
    · have hltI : ¬ (k : Int) < (l.length : Int) := by omega
      obtain rfl : k = l.length := by omega
      have HD2 := HD.out
      rw [List.take_length] at HD2
      have HD3 := Lib.hid HD2
      clear HD2
      go_wp2_with fail
      go_returns
      exact ⟨true, rfl, ⟨fun _ => HD3.out, fun _ => rfl⟩, HQ.out⟩
namespace UBl
def kl (k : Int) : Lit := .int .i64 k
def kok (k : Int) : Prop := (Lit.int .i64 k).wf = true
theorem law : Keyed Tryz.prog 3 := int_keyed Tryz.underlying3
theorem key_of {k : Int} (h : kok k) : keyOf Tryz.prog 3 (.int .i64 k) = some (kl k) := keyOf_int_mk Tryz.underlying3 h
theorem key_lit (k : Int) : WideAt.IsKeyLit (kl k) := by trivial
theorem kl_inj {a b : Int} (h : kl a = kl b) : a = b := by
  unfold kl at h; cases h; rfl
theorem zeroI (w : World) : (zeroValue 3).run Tryz.prog w = .ok (.int .i64 0) w := by kernel_rfl
/-- the map at block mb has the keys S -/
def SetP (w : World) (mb : Nat) (S : List Int) : Prop := ∃ (D : DataW Value), w.ownsMap Tryz.prog 3 heldR mb S.length D ∧ (∀ k, has D (kl k) = inS S k)
section
variable {w w' : World} {mb : Nat} {S : List Int}
theorem SetP.of (h : SetP w mb S) (hb : w'.heap[mb]? = w.heap[mb]?) : SetP w' mb S := by
  obtain ⟨D, ⟨es, ck, hh, r⟩, hD⟩ := h
  exact ⟨D, ⟨es, ck, hb.trans hh, r⟩, hD⟩
theorem SetP.lt (h : SetP w mb S) : mb < w.heap.size := by
  obtain ⟨D, hh, _⟩ := h
  exact hh.lt
theorem SetP.look (h : SetP w mb S) {k : Int} (hk : kok k) : ∃ v, (Instr.lookup 129 (.map (some mb)) (.int .i64 k) true).run Tryz.prog w = .ok (.tuple #[v, .bool (inS S k)]) w := by
  obtain ⟨D, hown, hh⟩ := h
  obtain ⟨v, ps, hrun, hv⟩ := hown.look_ok law Tryz.underlying129 (zeroI w) (zd := .held (.int .i64 0)) (zp := []) rfl (key_of hk)
  exact ⟨v, by rw [hrun, hh]⟩
theorem SetP.put (h : SetP w mb S) {k : Int} (hk : kok k) (hl : S.length < 1000000) (v : Value) :
    ∃ w', (Instr.mapUpdate 129 (.map (some mb)) (.int .i64 k) v).run Tryz.prog w = .ok () w' ∧ SetP w' mb (S ++ [k]) ∧ w.mapTurned w' mb := by
  obtain ⟨D, hown, hh⟩ := h
  obtain ⟨w', hrun, hown', hturn⟩ := hown.store law Tryz.underlying129 (by unfold maxLen; omega) (val := v) (key_of hk) (d := .held v) (ps := []) rfl
  refine ⟨w', hrun, ⟨_, by rw [List.length_append]; exact hown', fun j => ?_⟩, hturn⟩
  by_cases hj : j = k
  · subst hj
    rw [has_put_same hown.isMap (key_lit _)]
    simp [inS]
  · rw [has_put_other (fun e => hj (kl_inj e)), hh]
    simp [inS, Ne.symm hj]
end
end UBl
theorem uof_Bl (x : Bl) (w : World) : Calls Tryz.prog 66 #[.agg (arr x)] w fun e w' => e = .returned (.int .i64 x.sl) ∧ Below w.heap.size w w' := by
  have y2 : (w.alloc (.cells (arr x) 59)).cell? ⟨w.heap.size, 2, none⟩ = some (.int .i64 x.sl) := by rw [row_cell (heap_alloc_new w _)]; rfl
  have HB : Hid (Below w.heap.size w (w.alloc (.cells (arr x) 59))) := Lib.hid (by go_grown)
  go_enter Tryz.func66, Tryz.ntmps66
  go_wp2_with fail
  go_ret
  exact ⟨rfl, HB.out⟩
set_option maxHeartbeats 8000000 in
theorem un_Bl {l : List Bl} {v : Value} {w : World} (h : Rs w 0 v l) (hlen : l.length ≤ 1000) (hok : ∀ x ∈ l, UBl.kok x.sl) :
    Calls Tryz.prog 65 #[v, .func (.func 66) #[] #[]] w (IsV ((l.map (·.sl)).Nodup) w) := by
  obtain ⟨A, cap, rfl, hlc, hcap⟩ := h.any
  have HR := Lib.hid h
  have HOK := Lib.hid hok
  have HMK := Lib.hid (World.ownsMap_made w Tryz.prog 3 heldR)
  have hmm := @run_makeMap Tryz.prog
  clear h hok
  have hm63 : maxLen = 9223372036854775807 := rfl
  go_enter Tryz.func65, Tryz.ntmps65
  go_wp2_with fail
  go_loopw [13] (fun i wq => ∃ k : Nat, k ≤ l.length ∧ i = .int .i64 k ∧ UBl.SetP wq w.heap.size ((l.take k).map (·.sl)) ∧ ((l.take k).map (·.sl)).Nodup ∧ Below w.heap.size w wq) (fun i _ => l.length - (intOf i).toNat)
  case atStart => exact ⟨0, by omega, rfl, ⟨_, HMK.out, fun k => rfl⟩, .nil, by go_grown⟩
  case round =>
    obtain ⟨k, hk, rfl, hsp, hnd, hbq⟩ := hrel
    have HQ := Lib.hid hbq
    have HS := Lib.hid hsp
    have HD := Lib.hid hnd
    clear hbq hsp hnd
    by_cases hlt : k < l.length
    · have hltI : (k : Int) < (l.length : Int) := by omega
      obtain ⟨b, off, cap', he, _, _⟩ := HR.out.shape (by omega)
      cases he
      have HE := Lib.hid (rangeAt_below (HR.out.range hlt) (HR.out.lt b rfl) HQ.out)
      have HT : Hid ((l.take (k + 1)).map (·.sl) = (l.take k).map (·.sl) ++ [l[k].sl]) := Lib.hid (by rw [List.take_succ_eq_append_getElem hlt, List.map_append]; rfl)
      have HKO := Lib.hid (HOK.out _ (List.getElem_mem hlt))
      have HNO : Hid (inS ((l.take k).map (·.sl)) l[k].sl = true → ¬ (l.map (·.sl)).Nodup) := Lib.hid (in_twice hlt)
      have HYE : Hid (inS ((l.take k).map (·.sl)) l[k].sl = false → ((l.take k).map (·.sl) ++ [l[k].sl]).Nodup) := Lib.hid (fun hx => nodup_one HD.out hx)
      have HSL : Hid (((l.take k).map (·.sl)).length < 1000000) := Lib.hid (by rw [List.length_map, List.length_take]; omega)
      generalize (l.take k).map (·.sl) = S at *
      generalize l[k] = x at *
      go_wp2_with (first
        | (refine rw_alloc (α := Bl) rfl rfl ?_)
        | (refine rw_store (α := Bl) rfl (.tmp 7) (.tmp 17) rfl wr.heap.size x _ (arr_size _) rfl rfl (heap_alloc_new _ _) ?_; intro w5 hb5 hg5 hs5; have HX := Lib.hid hb5; have HB5 := Lib.hid (bel_box'.grown hg5 bel_box'.size (fun j hj => by cases hj; exact Nat.le_refl _)); clear hb5 hg5 hs5)
        | (refine rw_load (α := Bl) rfl (.tmp 16) rfl b (off + k * 3) rfl x HE.out ?_)
        | (refine rw_load (α := Bl) rfl (.tmp 7) rfl wr.heap.size 0 rfl x (range_row HX.out) ?_))
      refine (uof_Bl x _).mono ?_
      rintro e w1 ⟨rfl, hb1⟩
      have HS1 := Lib.hid ((HS.out.of (HB5.out.block _ HS.out.lt)).of (hb1.block _ (Nat.lt_of_lt_of_le HS.out.lt HB5.out.size)))
      have HQ1 := Lib.hid (HQ.out.trans ((HB5.out.trans (hb1.mono HB5.out.size)).mono HQ.out.size))
      obtain ⟨v, hlook⟩ := HS1.out.look HKO.out
      have HX1 := Lib.hid ((hb1.block _ (heap_lt HX.out)).trans HX.out)
      clear hb1
      generalize inS S x.sl = r at *
      cases r with
      | true =>
        have HN2 := Lib.hid (HNO.out rfl)
        clear HNO HYE
        go_wp2_with fail
        go_returns
        exact ⟨false, rfl, ⟨fun h => (nomatch h), fun h => absurd h HN2.out⟩, HQ1.out⟩
      | false =>
        have HY2 := Lib.hid (HYE.out rfl)
        clear HNO HYE
        go_wp2_with (first
          | (refine rw_load (α := Bl) rfl (.tmp 7) rfl wr.heap.size 0 rfl x (range_row HX1.out) ?_))
        refine (uof_Bl x _).mono ?_
        rintro e w2 ⟨rfl, hb2⟩
        have HS2 := Lib.hid (HS1.out.of (hb2.block _ HS1.out.lt))
        have HQ2 := Lib.hid (HQ1.out.trans (hb2.mono HQ1.out.size))
        obtain ⟨w3, hput, hs3, ht3⟩ := HS2.out.put HKO.out HSL.out (.int .i64 k)
        have HS3 := Lib.hid hs3
        have HQ3 := Lib.hid (HQ2.out.grown ht3.grown HQ2.out.size (fun j hj => by cases hj; exact Nat.le_refl _))
        clear hb2 hs3 ht3 hlook
        go_wp2_with fail
        go_roundw
        case rel => exact ⟨k + 1, by omega, by go_num, by rw [HT.out]; exact HS3.out, by rw [HT.out]; exact HY2.out, HQ3.out⟩
        case measure => simp [intOf]; omega
    · have hltI : ¬ (k : Int) < (l.length : Int) := by omega
      obtain rfl : k = l.length := by omega
      have HD2 := HD.out
      rw [List.take_length] at HD2
      have HD3 := Lib.hid HD2
      clear HD2
      go_wp2_with fail
      go_returns
      exact ⟨true, rfl, ⟨fun _ => HD3.out, fun _ => rfl⟩, HQ.out⟩
end Go.Proofs.YtokhnbdhcehonaaGreat
/- index: the closures of Check; slices.ContainsFunc of names and changes. -/
namespace Go.Proofs.YtokhnbdhcehonaaGreat
open Go Go.RowKit Row
set_option maxRecDepth 100000
theorem cn_any {l : List Nm} {v : Value} {B B' : Nat} {w : World} {g : Nat} {lb : Array Value} {p : Nm → Bool} (hp : PB B w g lb p) (hB : B ≤ w.heap.size) (h : Rs w B' v l) :
    Calls Tryz.prog 67 #[v, .func (.func g) #[] lb] w fun e w' => e = .returned (.bool (l.any p)) ∧ Below w.heap.size w w' := by
  have HIX := Lib.hid (ix_Nm hp hB h)
  obtain ⟨A, cap, hv, hlc, hcap⟩ := h.any
  subst hv
  clear hp h
  go_enter Tryz.func67, Tryz.ntmps67
  go_wp2_with fail
  refine HIX.out.mono ?_
  rintro e w1 ⟨i0, rfl, hb1, hcase⟩
  have HB1 := Lib.hid hb1
  clear hb1
  rcases hcase with ⟨rfl, hno⟩ | ⟨j, hj, rfl, hpj, hno⟩
  · have HF : Hid (l.any p = false) := Lib.hid (by rw [List.any_eq_false]; intro x hx; rw [hno x hx]; simp)
    clear hno
    go_wp2_with fail
    go_ret
    rw [HF.out]
    exact ⟨rfl, HB1.out⟩
  · have HF : Hid (l.any p = true) := Lib.hid (List.any_eq_true.2 ⟨l[j], List.getElem_mem hj, hpj⟩)
    clear hno hpj
    go_wp2_with fail
    go_ret
    rw [HF.out]
    exact ⟨rfl, HB1.out⟩
theorem cc_any {l : List Ch} {v : Value} {B B' : Nat} {w : World} {g : Nat} {lb : Array Value} {p : Ch → Bool} (hp : PB B w g lb p) (hB : B ≤ w.heap.size) (h : Rs w B' v l) :
    Calls Tryz.prog 71 #[v, .func (.func g) #[] lb] w fun e w' => e = .returned (.bool (l.any p)) ∧ Below w.heap.size w w' := by
  have HIX := Lib.hid (ix_Ch hp hB h)
  obtain ⟨A, cap, hv, hlc, hcap⟩ := h.any
  subst hv
  clear hp h
  go_enter Tryz.func71, Tryz.ntmps71
  go_wp2_with fail
  refine HIX.out.mono ?_
  rintro e w1 ⟨i0, rfl, hb1, hcase⟩
  have HB1 := Lib.hid hb1
  clear hb1
  rcases hcase with ⟨rfl, hno⟩ | ⟨j, hj, rfl, hpj, hno⟩
  · have HF : Hid (l.any p = false) := Lib.hid (by rw [List.any_eq_false]; intro x hx; rw [hno x hx]; simp)
    clear hno
    go_wp2_with fail
    go_ret
    rw [HF.out]
    exact ⟨rfl, HB1.out⟩
  · have HF : Hid (l.any p = true) := Lib.hid (List.any_eq_true.2 ⟨l[j], List.getElem_mem hj, hpj⟩)
    clear hno hpj
    go_wp2_with fail
    go_ret
    rw [HF.out]
    exact ⟨rfl, HB1.out⟩
/-- no such file -/
def noF (c : Ca) (u : ByteArray) : Bool := !(find kF c.fs u).isSome
theorem stray_any {c : Ca} {cv : Cv} {w : World} {b : Nat} (hb : w.heap[b]? = some (.cells (arr cv) 30)) (h : CaAt w cv c) (hs : Srt kF lF c.fs) (u : ByteArray) :
    Calls Tryz.prog 56 #[.string u, .pointer (some ⟨b, 0, none⟩)] w fun e w' => e = .returned (.bool (noF c u)) ∧ Below w.heap.size w w' := by
  have HX := Lib.hid hb
  have HF := Lib.hid (file_any h hs u)
  clear hb h hs
  unfold noF
  generalize (find kF c.fs u).isSome = r at HF ⊢
  generalize ((find kF c.fs u).getD RowT.z).a = y at HF ⊢
  go_enter Tryz.func56, Tryz.ntmps56
  go_wp2_with (refine rw_load (α := Cv) rfl (.tmp 1) rfl b 0 rfl cv (range_row HX.out) ?_)
  refine HF.out.mono ?_
  rintro e w1 ⟨rfl, hb1⟩
  have HB1 := Lib.hid hb1
  clear hb1
  go_wp2_with (refine rw_put (α := At) _ 4 (.tmp 10) rfl rfl rfl rfl rfl rfl y rfl rfl ?_)
  go_ret
  exact ⟨rfl, HB1.out.trans (bel_box.mono HB1.out.size)⟩
/-- the closures over stray's cell -/
structure Stray (w : World) (b s : Nat) (cv : Cv) (c : Ca) : Prop where
  box : w.heap[b]? = some (.cells (arr cv) 30)
  cell : w.heap[s]? = some (.cells #[.func (.func 56) #[] #[.pointer (some ⟨b, 0, none⟩)]] 93)
  ca : CaAt w cv c
theorem Stray.below {w w' : World} {b s : Nat} {cv : Cv} {c : Ca} (h : Stray w b s cv c) (hb : Below w.heap.size w w') : Stray w' b s cv c :=
  ⟨(hb.block _ (heap_lt h.box)).trans h.box, (hb.block _ (heap_lt h.cell)).trans h.cell, h.ca.below hb⟩
theorem check5_pb {w : World} {b s : Nat} {cv : Cv} {c : Ca} (h : Stray w b s cv c) (hs : Srt kF lF c.fs) : PB w.heap.size w 68 #[.pointer (some ⟨s, 0, none⟩)] (fun y : Nm => noF c y.dir) := by
  refine ⟨fun args w => enters_of Tryz.func68 (by kernel_rfl) rfl args w, fun W y hW => ?_⟩
  have hW2 : Below w.heap.size w (W.alloc (.cells (arr y) 54)) := hW.trans (bel_box.mono hW.size)
  have hh := h.below hW2
  have s0 : (W.alloc (.cells (arr y) 54)).cell? ⟨s, 0, none⟩ = some (.func (.func 56) #[] #[.pointer (some ⟨b, 0, none⟩)]) := by rw [row_cell hh.cell]; rfl
  have y0 : (W.alloc (.cells (arr y) 54)).cell? ⟨W.heap.size, 0, none⟩ = some (.string y.dir) := by rw [row_cell (heap_alloc_new W _)]; rfl
  have HS := Lib.hid (stray_any hh.box hh.ca hs y.dir)
  have HB : Hid (Below W.heap.size W (W.alloc (.cells (arr y) 54))) := Lib.hid (by go_grown)
  have eg : ∀ args w, (callFunc 56 args).run Tryz.prog w = .ok (.enter 56 args) w := fun args w => enters_of Tryz.func56 (by kernel_rfl) rfl args w
  clear hh hW2 hW h hs
  generalize noF c y.dir = r at HS ⊢
  show Calls _ _ #[.agg (arr y), .pointer (some ⟨s, 0, none⟩)] _ _
  go_enter Tryz.func68, Tryz.ntmps68
  go_wp2_with fail
  refine HS.out.mono ?_
  rintro e w1 ⟨rfl, hb1⟩
  have HB1 := Lib.hid (HB.out.trans (hb1.mono HB.out.size))
  clear hb1
  go_wp2_with fail
  go_ret
  exact ⟨rfl, HB1.out⟩
theorem check6_pb {w : World} {b s : Nat} {cv : Cv} {c : Ca} (h : Stray w b s cv c) (hs : Srt kF lF c.fs) : PB w.heap.size w 70 #[.pointer (some ⟨s, 0, none⟩)] (fun y : Bl => noF c y.up) := by
  refine ⟨fun args w => enters_of Tryz.func70 (by kernel_rfl) rfl args w, fun W y hW => ?_⟩
  have hW2 : Below w.heap.size w (W.alloc (.cells (arr y) 59)) := hW.trans (bel_box.mono hW.size)
  have hh := h.below hW2
  have s0 : (W.alloc (.cells (arr y) 59)).cell? ⟨s, 0, none⟩ = some (.func (.func 56) #[] #[.pointer (some ⟨b, 0, none⟩)]) := by rw [row_cell hh.cell]; rfl
  have y0 : (W.alloc (.cells (arr y) 59)).cell? ⟨W.heap.size, 0, none⟩ = some (.string y.up) := by rw [row_cell (heap_alloc_new W _)]; rfl
  have HS := Lib.hid (stray_any hh.box hh.ca hs y.up)
  have HB : Hid (Below W.heap.size W (W.alloc (.cells (arr y) 59))) := Lib.hid (by go_grown)
  have eg : ∀ args w, (callFunc 56 args).run Tryz.prog w = .ok (.enter 56 args) w := fun args w => enters_of Tryz.func56 (by kernel_rfl) rfl args w
  clear hh hW2 hW h hs
  generalize noF c y.up = r at HS ⊢
  show Calls _ _ #[.agg (arr y), .pointer (some ⟨s, 0, none⟩)] _ _
  go_enter Tryz.func70, Tryz.ntmps70
  go_wp2_with fail
  refine HS.out.mono ?_
  rintro e w1 ⟨rfl, hb1⟩
  have HB1 := Lib.hid (HB.out.trans (hb1.mono HB.out.size))
  clear hb1
  go_wp2_with fail
  go_ret
  exact ⟨rfl, HB1.out⟩
theorem check2_pb (w : World) : PB w.heap.size w 57 #[] (fun y : Ch => !chkP y) := by
  refine ⟨fun args w => enters_of Tryz.func57 (by kernel_rfl) rfl args w, fun W y hW => ?_⟩
  have HX := Lib.hid (heap_alloc_new W (.cells (arr y) 69))
  have HC := Lib.hid (check_any y (W.alloc (.cells (arr y) 69)))
  have HB : Hid (Below W.heap.size W (W.alloc (.cells (arr y) 69))) := Lib.hid (by go_grown)
  clear hW
  show Calls _ _ #[.agg (arr y)] _ _
  generalize chkP y = r at HC ⊢
  cases r
  all_goals
    go_enter Tryz.func57, Tryz.ntmps57
    go_wp2_with (refine rw_load (α := Ch) rfl (.tmp 1) rfl W.heap.size 0 rfl y (range_row HX.out) ?_)
    refine HC.out.mono ?_
    rintro e w1 ⟨rfl, hb1⟩
    have HB1 := Lib.hid (HB.out.trans (hb1.mono HB.out.size))
    clear hb1
    go_wp2_with fail
    go_ret
    exact ⟨rfl, HB1.out⟩
end Go.Proofs.YtokhnbdhcehonaaGreat
/- index: Check. -/
namespace Go.Proofs.YtokhnbdhcehonaaGreat
open Go Go.RowKit Row
set_option maxRecDepth 100000
/-- what Check asks of a cache -/
structure Okc (c : Ca) : Prop where
  ri : Rises c
  hu : (c.hs.map (·.up)).Nodup
  sl : (c.bs.map (·.sl)).Nodup
  nd : c.ns.any (fun y => noF c y.dir) = false
  bd : c.bs.any (fun y => noF c y.up) = false
  ch : (chgC c).any (fun y => !chkP y) = false
def IkV (c : Ca) (w : World) (r : Ending) (w' : World) : Prop := ∃ b : Bool, r = .returned (.int .i64 (if b = true then 0 else 14)) ∧ (b = true ↔ Okc c) ∧ Below w.heap.size w w'
theorem IkV.no {c : Ca} {w w' : World} {r : Ending} (hr : r = .returned (.int .i64 14)) (h : ¬ Okc c) (hb : Below w.heap.size w w') : IkV c w r w' := ⟨false, hr, ⟨fun e => (nomatch e), fun e => absurd e h⟩, hb⟩
theorem run_store_func (P : Program) (w : World) (a : Addr) (m : Mode) (f : Fn) (x y : Array Value) : (store a (.func f x y) m).run P w = stored P w a (.func f x y) m := run_store P w a _ m rfl
set_option maxHeartbeats 16000000 in
theorem icheck_any {c : Ca} {cv : Cv} {w : World} (h : CaAt w cv c) (hf : Few c 100) (hoh : ∀ x ∈ c.hs, UHd.kok x.up) (hob : ∀ x ∈ c.bs, UBl.kok x.sl) :
    Calls Tryz.prog 29 #[.agg (arr cv)] w (IkV c w) := by
  obtain ⟨Wb, hW⟩ : ∃ Wb, Wb = (w.alloc (.cells (arr cv) 30)).alloc (.cells #[.func (.func 56) #[] #[.pointer (some ⟨w.heap.size, 0, none⟩)]] 93) := ⟨_, rfl⟩
  have hb0 : Below w.heap.size w Wb := by rw [hW]; go_grown
  have hst : Stray Wb w.heap.size (w.heap.size + 1) cv c := ⟨by rw [hW]; exact heap_old_at (heap_alloc_new _ _), by rw [hW]; exact heap_new_at _ _ (alloc_size _ _), h.below hb0⟩
  have HST := Lib.hid hst
  have HB := Lib.hid hb0
  have HW := Lib.hid hW
  have HF := Lib.hid hf
  have HOH := Lib.hid hoh
  have HOB := Lib.hid hob
  have hm63 : maxLen = 9223372036854775807 := rfl
  have hsf := run_store_func Tryz.prog
  obtain ⟨c0, c1, c2, c3⟩ := cv_cells HST.out.box
  rw [HW.out] at c0 c1 c2 c3
  clear h hf hoh hob hb0 hst hW
  go_enter Tryz.func29, Tryz.ntmps29
  go_wp2_with fail
  rw [← HW.out]
  clear c0 c1 c2 c3
  refine (ri_Hd HST.out.ca.hs).mono ?_
  rintro r w1 ⟨b1, rfl, hi1, hb1⟩
  have HST1 := Lib.hid (HST.out.below hb1)
  have HB1 := Lib.hid (HB.out.trans (hb1.mono HB.out.size))
  obtain ⟨c0, c1, c2, c3⟩ := cv_cells HST1.out.box
  clear hb1
  cases b1 with
  | false =>
    have HN : Hid (¬ Okc c) := Lib.hid (fun h => nomatch (hi1.2 h.ri.hs))
    clear hi1
    go_wp2_with fail
    go_ret
    exact .no rfl HN.out HB1.out
  | true =>
  have HP1 : Hid (Srt kH lH c.hs) := Lib.hid (hi1.1 rfl)
  clear hi1
  go_wp2_with fail
  clear c0 c1 c2 c3
  refine (ri_Fl HST1.out.ca.fs).mono ?_
  rintro r w2 ⟨b2, rfl, hi2, hb2⟩
  have HST2 := Lib.hid (HST1.out.below hb2)
  have HB2 := Lib.hid (HB1.out.trans (hb2.mono HB1.out.size))
  obtain ⟨c0, c1, c2, c3⟩ := cv_cells HST2.out.box
  clear hb2
  cases b2 with
  | false =>
    have HN : Hid (¬ Okc c) := Lib.hid (fun h => nomatch (hi2.2 h.ri.fs))
    clear hi2
    go_wp2_with fail
    go_ret
    exact .no rfl HN.out HB2.out
  | true =>
  have HP2 : Hid (Srt kF lF c.fs) := Lib.hid (hi2.1 rfl)
  clear hi2
  go_wp2_with fail
  clear c0 c1 c2 c3
  refine (ri_Nm HST2.out.ca.ns).mono ?_
  rintro r w3 ⟨b3, rfl, hi3, hb3⟩
  have HST3 := Lib.hid (HST2.out.below hb3)
  have HB3 := Lib.hid (HB2.out.trans (hb3.mono HB2.out.size))
  obtain ⟨c0, c1, c2, c3⟩ := cv_cells HST3.out.box
  clear hb3
  cases b3 with
  | false =>
    have HN : Hid (¬ Okc c) := Lib.hid (fun h => nomatch (hi3.2 h.ri.ns))
    clear hi3
    go_wp2_with fail
    go_ret
    exact .no rfl HN.out HB3.out
  | true =>
  have HP3 : Hid (Srt kN lN c.ns) := Lib.hid (hi3.1 rfl)
  clear hi3
  go_wp2_with fail
  clear c0 c1 c2 c3
  refine (ri_Bl HST3.out.ca.bs).mono ?_
  rintro r w4 ⟨b4, rfl, hi4, hb4⟩
  have HST4 := Lib.hid (HST3.out.below hb4)
  have HB4 := Lib.hid (HB3.out.trans (hb4.mono HB3.out.size))
  obtain ⟨c0, c1, c2, c3⟩ := cv_cells HST4.out.box
  clear hb4
  cases b4 with
  | false =>
    have HN : Hid (¬ Okc c) := Lib.hid (fun h => nomatch (hi4.2 h.ri.bs))
    clear hi4
    go_wp2_with fail
    go_ret
    exact .no rfl HN.out HB4.out
  | true =>
  have HP4 : Hid (Srt kB lB c.bs) := Lib.hid (hi4.1 rfl)
  clear hi4
  go_wp2_with fail
  clear c0 c1 c2 c3
  refine (un_Hd HST4.out.ca.hs (Nat.le_trans HF.out.hs (by decide)) HOH.out).mono ?_
  rintro r w5 ⟨b5, rfl, hi5, hb5⟩
  have HST5 := Lib.hid (HST4.out.below hb5)
  have HB5 := Lib.hid (HB4.out.trans (hb5.mono HB4.out.size))
  obtain ⟨c0, c1, c2, c3⟩ := cv_cells HST5.out.box
  clear hb5
  cases b5 with
  | false =>
    have HN : Hid (¬ Okc c) := Lib.hid (fun h => nomatch (hi5.2 h.hu))
    clear hi5
    go_wp2_with fail
    go_ret
    exact .no rfl HN.out HB5.out
  | true =>
  have HP5 : Hid ((c.hs.map (·.up)).Nodup) := Lib.hid (hi5.1 rfl)
  clear hi5
  go_wp2_with fail
  clear c0 c1 c2 c3
  refine (un_Bl HST5.out.ca.bs (Nat.le_trans HF.out.bs (by decide)) HOB.out).mono ?_
  rintro r w6 ⟨b6, rfl, hi6, hb6⟩
  have HST6 := Lib.hid (HST5.out.below hb6)
  have HB6 := Lib.hid (HB5.out.trans (hb6.mono HB5.out.size))
  obtain ⟨c0, c1, c2, c3⟩ := cv_cells HST6.out.box
  clear hb6
  cases b6 with
  | false =>
    have HN : Hid (¬ Okc c) := Lib.hid (fun h => nomatch (hi6.2 h.sl))
    clear hi6
    go_wp2_with fail
    go_ret
    exact .no rfl HN.out HB6.out
  | true =>
  have HP6 : Hid ((c.bs.map (·.sl)).Nodup) := Lib.hid (hi6.1 rfl)
  clear hi6
  go_wp2_with fail
  have HRI : Hid (Rises c) := Lib.hid ⟨HP1.out, HP2.out, HP3.out, HP4.out⟩
  clear c0 c1 c2 c3
  refine (cn_any (check5_pb HST6.out HP2.out) (Nat.le_refl _) HST6.out.ca.ns).mono ?_
  rintro r w7 ⟨rfl, hb7⟩
  have HST7 := Lib.hid (HST6.out.below hb7)
  have HB7 := Lib.hid (HB6.out.trans (hb7.mono HB6.out.size))
  obtain ⟨c0, c1, c2, c3⟩ := cv_cells HST7.out.box
  clear hb7
  have HV7 : Hid (∃ b, b = c.ns.any (fun y => noF c y.dir)) := Lib.hid ⟨_, rfl⟩
  obtain ⟨b7, hv7⟩ := HV7.out
  rw [← hv7]
  have HE7 := Lib.hid hv7
  clear hv7 HV7
  cases b7 with
  | true =>
    have HN : Hid (¬ Okc c) := Lib.hid (fun h => by have := HE7.out.trans h.nd; cases this)
    go_wp2_with fail
    go_ret
    exact .no rfl HN.out HB7.out
  | false =>
  go_wp2_with (refine rw_load (α := Cv) rfl (.tmp 1) rfl w.heap.size 0 rfl cv (range_row HST7.out.box) ?_)
  clear c0 c1 c2 c3
  refine (cb_any (check6_pb HST7.out HP2.out) (Nat.le_refl _) HST7.out.ca.bs).mono ?_
  rintro r w8 ⟨rfl, hb8⟩
  have HST8 := Lib.hid (HST7.out.below hb8)
  have HB8 := Lib.hid (HB7.out.trans (hb8.mono HB7.out.size))
  obtain ⟨c0, c1, c2, c3⟩ := cv_cells HST8.out.box
  clear hb8
  have HV8 : Hid (∃ b, b = c.bs.any (fun y => noF c y.up)) := Lib.hid ⟨_, rfl⟩
  obtain ⟨b8, hv8⟩ := HV8.out
  rw [← hv8]
  have HE8 := Lib.hid hv8
  clear hv8 HV8
  cases b8 with
  | true =>
    have HN : Hid (¬ Okc c) := Lib.hid (fun h => by have := HE8.out.trans h.bd; cases this)
    go_wp2_with fail
    go_ret
    exact .no rfl HN.out HB8.out
  | false =>
  go_wp2_with (refine rw_load (α := Cv) rfl (.tmp 1) rfl w.heap.size 0 rfl cv (range_row HST8.out.box) ?_)
  clear c0 c1 c2 c3
  refine (ichanges_any HST8.out.ca HF.out).mono ?_
  rintro r w9 ⟨v9, rfl, hr9, hb9⟩
  have HST9 := Lib.hid (HST8.out.below hb9)
  have HB9 := Lib.hid (HB8.out.trans (hb9.mono HB8.out.size))
  obtain ⟨c0, c1, c2, c3⟩ := cv_cells HST9.out.box
  clear hb9
  have HR9 := Lib.hid hr9
  obtain ⟨Ac, kc, hvc, hlc, hcc⟩ := hr9.any
  subst hvc
  clear hr9
  go_wp2_with fail
  refine (cc_any (check2_pb w9) (Nat.le_refl _) HR9.out).mono ?_
  rintro r wA ⟨rfl, hbA⟩
  have HBA := Lib.hid (HB9.out.trans (hbA.mono HB9.out.size))
  clear hbA c0 c1 c2 c3
  have HVA : Hid (∃ b, b = (chgC c).any (fun y => !chkP y)) := Lib.hid ⟨_, rfl⟩
  obtain ⟨bA, hvA⟩ := HVA.out
  rw [← hvA]
  have HEA := Lib.hid hvA
  clear hvA HVA
  cases bA with
  | true =>
    have HN : Hid (¬ Okc c) := Lib.hid (fun h => by have := HEA.out.trans h.ch; cases this)
    go_wp2_with fail
    go_ret
    exact .no rfl HN.out HBA.out
  | false =>
    have HY : Hid (Okc c) := Lib.hid ⟨HRI.out, HP5.out, HP6.out, HE7.out.symm, HE8.out.symm, HEA.out.symm⟩
    go_wp2_with fail
    go_ret
    exact ⟨true, rfl, ⟨fun _ => HY.out, fun _ => rfl⟩, HBA.out⟩
end Go.Proofs.YtokhnbdhcehonaaGreat
