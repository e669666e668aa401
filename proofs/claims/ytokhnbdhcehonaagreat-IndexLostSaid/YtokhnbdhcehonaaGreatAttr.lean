/- index: attr.Check. -/
import Derived.Test.YtokhnbdhcehonaaGreatBare
set_option linter.unusedSimpArgs false
set_option linter.unusedVariables false
namespace Go.Proofs.YtokhnbdhcehonaaGreat
open Go Go.RowKit Row
set_option maxRecDepth 100000
/-- a number and its limit -/
structure Lm where
  n : Int
  m : Int
abbrev Lm.cells (x : Lm) : List Value := [.int .i64 x.n, .int .i64 x.m]
instance : Row Lm := ⟨Lm.cells, 2, by decide, fun _ => rfl, fun x v hv => by simp only [Lm.cells, List.mem_cons, List.not_mem_nil, or_false] at hv; rcases hv with e | e <;> subst e <;> rfl⟩
instance : RowT Lm where
  T := 176
  d := _
  z := ⟨0, 0⟩
  bytes := 16
  hby := by decide
  hu := Tryz.underlying176
  hd := rfl
  hinfo := by kernel_rfl
  hzero := fun w => by kernel_rfl
  halloc := fun w => by kernel_rfl
instance : RowS Lm where
  S := 190
  hS := Tryz.underlying190
def maxI : Int := 9223372036854775807
theorem free_any (n : Int) (w : World) : Calls Tryz.prog 153 #[.int .i64 n] w fun e w' => e = .returned (.agg #[.int .i64 n, .int .i64 9223372036854775807]) ∧ Below w.heap.size w w' := by
  go_enter Tryz.func153, Tryz.ntmps153
  go_wp2_with (first
    | (refine rw_alloc (α := Lm) rfl rfl ?_)
    | (refine rw_store (α := Lm) rfl (.tmp 2) (.tmp 4) rfl w.heap.size ⟨n, 9223372036854775807⟩ _ (arr_size _) rfl rfl (heap_alloc_new _ _) ?_; intro w2 hb2 hg2 hs2; have HC := Lib.hid hb2; have HB := Lib.hid ((bel_box (w := w)).grown hg2 bel_box.size (fun j hj => by cases hj; exact Nat.le_refl _)); clear hb2 hg2 hs2))
  (try simp only [Exit.inBlock, Exit.then])
  refine bodyPost_ret (res_row1 (α := Lm) Tryz.results153 _ _ w.heap.size ⟨n, 9223372036854775807⟩ rfl HC.out) rfl ?_
  exact ⟨rfl, HB.out⟩
def lmOk (x : Lm) : Bool := decide (0 ≤ x.n) && decide (x.n ≤ x.m)
set_option maxHeartbeats 8000000 in
theorem within_any {l : List Lm} {v : Value} {B : Nat} {w : World} (h : Rs w B v l) :
    Calls Tryz.prog 152 #[v] w fun e w' => e = .returned (.bool (l.all lmOk)) ∧ Below w.heap.size w w' := by
  obtain ⟨A, cap, hv, hlc, hcap⟩ := h.any
  subst hv
  have HR := Lib.hid h
  clear h
  obtain ⟨r, hr⟩ : ∃ r, r = l.all lmOk := ⟨_, rfl⟩
  rw [← hr]
  have HRR := Lib.hid hr
  clear hr
  have hm63 : maxLen = 9223372036854775807 := rfl
  go_enter Tryz.func152, Tryz.ntmps152
  go_wp2_with fail
  go_loopw [7] (fun i wq => ∃ k : Nat, k ≤ l.length ∧ i = .int .i64 k ∧ (∀ y ∈ l.take k, lmOk y = true) ∧ Below w.heap.size w wq) (fun i _ => l.length - (intOf i).toNat)
  case atStart => exact ⟨0, by omega, rfl, fun y hy => by simp at hy, Below.refl _ _⟩
  case round =>
    obtain ⟨k, hk, rfl, hno, hbq⟩ := hrel
    have HQ := Lib.hid hbq
    have HN := Lib.hid hno
    clear hbq hno
    by_cases hlt : k < l.length
    · have hltI : (k : Int) < (l.length : Int) := by omega
      obtain ⟨b, off, cap', he, _, _⟩ := HR.out.shape (by omega)
      cases he
      have HE := Lib.hid (rangeAt_below (HR.out.range hlt) (HR.out.lt b rfl) HQ.out)
      have y0 : (wr.alloc (.cells (arr l[k]) (RowT.T Lm))).cell? ⟨wr.heap.size, 0, none⟩ = some (.int .i64 l[k].n) := by rw [row_cell (heap_alloc_new wr _)]; rfl
      have y1 : (wr.alloc (.cells (arr l[k]) (RowT.T Lm))).cell? ⟨wr.heap.size, 1, none⟩ = some (.int .i64 l[k].m) := by rw [row_cell (heap_alloc_new wr _)]; rfl
      have HT : Hid (l.take (k + 1) = l.take k ++ [l[k]]) := Lib.hid (by rw [List.take_succ_eq_append_getElem hlt])
      have HBA := Lib.hid (HQ.out.trans ((bel_box (w := wr) (o := .cells (arr l[k]) (RowT.T Lm))).mono HQ.out.size))
      have HM : Hid (l[k] ∈ l) := Lib.hid (List.getElem_mem hlt)
      by_cases h0 : l[k].n < 0
      · have hf : r = false := HRR.out.trans (List.all_eq_false.2 ⟨l[k], HM.out, by simp [lmOk]; omega⟩)
        subst hf
        go_wp2_with (first
          | (refine rw_put (α := Lm) _ 4 (.tmp 10) rfl rfl rfl rfl rfl rfl l[k] rfl rfl ?_)
          | (refine rw_load (α := Lm) rfl (.tmp 9) rfl b (off + k * 2) rfl l[k] HE.out ?_))
        go_returns
        exact ⟨rfl, HBA.out⟩
      · by_cases h1 : l[k].m < l[k].n
        · have hf : r = false := HRR.out.trans (List.all_eq_false.2 ⟨l[k], HM.out, by simp [lmOk]; omega⟩)
          subst hf
          go_wp2_with (first
            | (refine rw_put (α := Lm) _ 4 (.tmp 10) rfl rfl rfl rfl rfl rfl l[k] rfl rfl ?_)
            | (refine rw_load (α := Lm) rfl (.tmp 9) rfl b (off + k * 2) rfl l[k] HE.out ?_))
          go_returns
          exact ⟨rfl, HBA.out⟩
        · have HOK : Hid (lmOk l[k] = true) := Lib.hid (by simp [lmOk]; omega)
          go_wp2_with (first
            | (refine rw_put (α := Lm) _ 4 (.tmp 10) rfl rfl rfl rfl rfl rfl l[k] rfl rfl ?_)
            | (refine rw_load (α := Lm) rfl (.tmp 9) rfl b (off + k * 2) rfl l[k] HE.out ?_))
          go_roundw
          case rel => exact ⟨k + 1, by omega, by go_num, fun y hy => by
            rw [HT.out] at hy
            rcases List.mem_append.1 hy with h2 | h2
            · exact HN.out y h2
            · rw [List.mem_singleton.1 h2]; exact HOK.out, HBA.out⟩
          case measure => simp [intOf]; omega
    · have hltI : ¬ (k : Int) < (l.length : Int) := by omega
      obtain rfl : k = l.length := by omega
      have hf : r = true := HRR.out.trans (List.all_eq_true.2 (by have := HN.out; rwa [List.take_length] at this))
      subst hf
      clear HN
      go_wp2_with fail
      go_returns
      exact ⟨rfl, HQ.out⟩
def lims (a : At) : List Lm := [⟨a.t, 7⟩, ⟨a.m, 4095⟩, ⟨a.l, 4294967295⟩, ⟨a.u, 4294967295⟩, ⟨a.g, 4294967295⟩, ⟨a.d, 4294967295⟩, ⟨a.z, 9223372036854775807⟩, ⟨a.e, 9223372036854775807⟩, ⟨a.c, 9223372036854775807⟩, ⟨a.i, 9223372036854775807⟩]
def atP (a : At) : Bool := decide (1 ≤ a.t) && (lims a).all lmOk
theorem at_cells {w : World} {b : Nat} {a : At} {t : TypeId} (h : w.heap[b]? = some (.cells (arr a) t)) :
    (w.cell? ⟨b, 0, none⟩ = some (.int .i64 a.t) ∧ w.cell? ⟨b, 1, none⟩ = some (.int .i64 a.m) ∧ w.cell? ⟨b, 2, none⟩ = some (.int .i64 a.l) ∧ w.cell? ⟨b, 3, none⟩ = some (.int .i64 a.u) ∧ w.cell? ⟨b, 4, none⟩ = some (.int .i64 a.g)) ∧
    (w.cell? ⟨b, 5, none⟩ = some (.int .i64 a.z) ∧ w.cell? ⟨b, 6, none⟩ = some (.int .i64 a.d) ∧ w.cell? ⟨b, 7, none⟩ = some (.int .i64 a.e) ∧ w.cell? ⟨b, 8, none⟩ = some (.int .i64 a.c) ∧ w.cell? ⟨b, 9, none⟩ = some (.int .i64 a.i)) := by
  refine ⟨⟨?_, ?_, ?_, ?_, ?_⟩, ?_, ?_, ?_, ?_, ?_⟩ <;> (rw [row_cell h]; rfl)
set_option maxHeartbeats 16000000 in
theorem attr_any (a : At) (w : World) : Calls Tryz.prog 129 #[.agg (arr a)] w fun e w' => e = .returned (.int .i64 (if atP a = true then 0 else 14)) ∧ Below w.heap.size w w' := by
  obtain ⟨W, hW⟩ : ∃ W, W = w.alloc (.cells (arr a) 45) := ⟨_, rfl⟩
  have hb : Below w.heap.size w W := by rw [hW]; go_grown
  have x0 : W.heap[w.heap.size]? = some (.cells (arr a) 45) := by rw [hW]; exact heap_alloc_new _ _
  have HC := Lib.hid (fun wS (h : Below W.heap.size W wS) => at_cells ((h.block _ (heap_lt x0)).trans x0))
  have HB := Lib.hid hb
  have HW := Lib.hid hW
  clear x0 hb hW
  by_cases h1 : a.t < 1
  · have hf : atP a = false := by unfold atP; rw [decide_eq_false (by omega)]; rfl
    rw [hf, if_neg (by simp)]
    clear hf
    go_enter Tryz.func129, Tryz.ntmps129
    go_wp2_with fail
    rw [← HW.out]
    refine wp_region_flow2_lit [(0, false), (1, false), (2, false), (3, false), (4, false), (5, false), (6, false), (7, false), (8, false), (9, false), (10, false), (11, false), (12, false), (13, false), (14, false), (15, false), (16, false), (17, false), (18, false), (19, false), (20, false), (21, false), (22, false), (23, false), (24, false), (25, false), (26, false), (27, false), (28, false), (29, false), (30, false), (31, false), (32, false), (33, false), (34, true), (35, true), (36, false), (37, false)] (fun wS => Below W.heap.size W wS) (by kernel_rfl) (by kernel_rfl) (by kernel_rfl) (by go_grown) ?_
    repeat (first | (refine' flow2_pass (o := _) rfl _ _; (focus rfl); simp only [Act.put, List.setIfInBounds_toArray, List.set_cons_zero, List.set_cons_succ]) | (refine' flow2_take (v := _) (o := _) rfl _ _ _; rotate_left; (focus rfl); (focus (intro wS hS; have hE := Ext.refl wS; (obtain ⟨⟨d0, d1, d2, d3, d4⟩, d5, d6, d7, d8, d9⟩ := HC.out wS hS); go_simp; try (with_reducible (first | exact ⟨rfl, hS, hE⟩ | rfl)); done)); simp only [Act.put, List.setIfInBounds_toArray, List.set_cons_zero, List.set_cons_succ]))
    refine flow2_nil ?_
    intro wZ hE hS
    have HZ := Lib.hid (HB.out.trans (hS.mono HB.out.size))
    clear hE hS
    go_wp2_with fail
    go_ret
    exact ⟨rfl, HZ.out⟩
  · obtain ⟨r, hr⟩ : ∃ r, r = (lims a).all lmOk := ⟨_, rfl⟩
    have hf : atP a = r := by unfold atP; rw [decide_eq_true (by omega), hr, Bool.true_and]
    rw [hf]
    have HRR := Lib.hid hr
    have hd1 : decide (a.t < 1) = false := decide_eq_false h1
    clear hf hr h1
    go_enter Tryz.func129, Tryz.ntmps129
    go_wp2_with fail
    rw [← HW.out]
    refine wp_region_flow2_lit [(0, false), (1, false), (2, false), (3, false), (4, false), (5, false), (6, false), (7, false), (8, false), (9, false), (10, false), (11, false), (12, false), (13, false), (14, false), (15, false), (16, false), (17, false), (18, false), (19, false), (20, false), (21, false), (22, false), (23, false), (24, false), (25, false), (26, false), (27, false), (28, false), (29, false), (30, false), (31, false), (32, false), (33, false), (34, true), (35, true), (36, false), (37, false)] (fun wS => Below W.heap.size W wS) (by kernel_rfl) (by kernel_rfl) (by kernel_rfl) (by go_grown) ?_
    repeat (first | (refine' flow2_pass (o := _) rfl _ _; (focus rfl); simp only [Act.put, List.setIfInBounds_toArray, List.set_cons_zero, List.set_cons_succ]) | (refine' flow2_take (v := _) (o := _) rfl _ _ _; rotate_left; (focus rfl); (focus (intro wS hS; have hE := Ext.refl wS; (obtain ⟨⟨d0, d1, d2, d3, d4⟩, d5, d6, d7, d8, d9⟩ := HC.out wS hS); go_simp; try (with_reducible (first | exact ⟨rfl, hS, hE⟩ | rfl)); done)); simp only [Act.put, List.setIfInBounds_toArray, List.set_cons_zero, List.set_cons_succ]))
    (refine' flow2_take (v := _) (o := _) rfl _ _ _; rotate_left; (focus rfl); (focus (intro wS hS; go_simp; refine (free_any _ _).mono ?_; rintro e w' ⟨rfl, hb⟩; refine ⟨?_, hS.trans (hb.mono hS.size), hb⟩; rfl)); simp only [Act.put, List.setIfInBounds_toArray, List.set_cons_zero, List.set_cons_succ])
    repeat (first | (refine' flow2_pass (o := _) rfl _ _; (focus rfl); simp only [Act.put, List.setIfInBounds_toArray, List.set_cons_zero, List.set_cons_succ]) | (refine' flow2_take (v := _) (o := _) rfl _ _ _; rotate_left; (focus rfl); (focus (intro wS hS; have hE := Ext.refl wS; (obtain ⟨⟨d0, d1, d2, d3, d4⟩, d5, d6, d7, d8, d9⟩ := HC.out wS hS); go_simp; try (with_reducible (first | exact ⟨rfl, hS, hE⟩ | rfl)); done)); simp only [Act.put, List.setIfInBounds_toArray, List.set_cons_zero, List.set_cons_succ]))
    (refine' flow2_take (v := _) (o := _) rfl _ _ _; rotate_left; (focus rfl); (focus (intro wS hS; go_simp; refine (free_any _ _).mono ?_; rintro e w' ⟨rfl, hb⟩; refine ⟨?_, hS.trans (hb.mono hS.size), hb⟩; rfl)); simp only [Act.put, List.setIfInBounds_toArray, List.set_cons_zero, List.set_cons_succ])
    repeat (first | (refine' flow2_pass (o := _) rfl _ _; (focus rfl); simp only [Act.put, List.setIfInBounds_toArray, List.set_cons_zero, List.set_cons_succ]) | (refine' flow2_take (v := _) (o := _) rfl _ _ _; rotate_left; (focus rfl); (focus (intro wS hS; have hE := Ext.refl wS; (obtain ⟨⟨d0, d1, d2, d3, d4⟩, d5, d6, d7, d8, d9⟩ := HC.out wS hS); go_simp; try (with_reducible (first | exact ⟨rfl, hS, hE⟩ | rfl)); done)); simp only [Act.put, List.setIfInBounds_toArray, List.set_cons_zero, List.set_cons_succ]))
    (refine' flow2_take (v := _) (o := _) rfl _ _ _; rotate_left; (focus rfl); (focus (intro wS hS; go_simp; refine (free_any _ _).mono ?_; rintro e w' ⟨rfl, hb⟩; refine ⟨?_, hS.trans (hb.mono hS.size), hb⟩; rfl)); simp only [Act.put, List.setIfInBounds_toArray, List.set_cons_zero, List.set_cons_succ])
    repeat (first | (refine' flow2_pass (o := _) rfl _ _; (focus rfl); simp only [Act.put, List.setIfInBounds_toArray, List.set_cons_zero, List.set_cons_succ]) | (refine' flow2_take (v := _) (o := _) rfl _ _ _; rotate_left; (focus rfl); (focus (intro wS hS; have hE := Ext.refl wS; (obtain ⟨⟨d0, d1, d2, d3, d4⟩, d5, d6, d7, d8, d9⟩ := HC.out wS hS); go_simp; try (with_reducible (first | exact ⟨rfl, hS, hE⟩ | rfl)); done)); simp only [Act.put, List.setIfInBounds_toArray, List.set_cons_zero, List.set_cons_succ]))
    (refine' flow2_take (v := _) (o := _) rfl _ _ _; rotate_left; (focus rfl); (focus (intro wS hS; go_simp; refine (free_any _ _).mono ?_; rintro e w' ⟨rfl, hb⟩; refine ⟨?_, hS.trans (hb.mono hS.size), hb⟩; rfl)); simp only [Act.put, List.setIfInBounds_toArray, List.set_cons_zero, List.set_cons_succ])
    (refine' flow2_turn (o := _) rfl _ _; (focus rfl); intro wT hE hS K hK; (skip); go_simp)
    refine hK _ _ (hS.trans (bel_box.mono hS.size)) ?_
    have HX : Hid (Rs (wT.alloc (.cells (enc (lims a)).toArray 176)) 0 (.slice (some ⟨wT.heap.size, 0, none⟩) 10 10) (lims a)) := Lib.hid (Sl.made wT (RowT.T Lm) 2 10 (enc (lims a)).toArray (Nat.zero_le _) (by decide) rfl)
    clear hK hE hS K
    simp only [Act.put, List.setIfInBounds_toArray, List.set_cons_zero, List.set_cons_succ]
    refine flow2_turn (o := _) rfl rfl ?_
    intro wU hE hS K hK
    go_simp
    refine (within_any (HX.out.below hE)).mono ?_
    rintro e w3 ⟨rfl, hb3⟩
    rw [← HRR.out]
    refine hK _ _ (hS.trans (hb3.mono hS.size)) ?_
    clear hK hE hS K hb3
    simp only [Act.put, List.setIfInBounds_toArray, List.set_cons_zero, List.set_cons_succ]
    cases r
    · repeat (first | (refine' flow2_pass (o := _) rfl _ _; (focus rfl); simp only [Act.put, List.setIfInBounds_toArray, List.set_cons_zero, List.set_cons_succ]) | (refine' flow2_take (v := _) (o := _) rfl _ _ _; rotate_left; (focus rfl); (focus (intro wS hS; have hE := Ext.refl wS; (skip); go_simp; try (with_reducible (first | exact ⟨rfl, hS, hE⟩ | rfl)); done)); simp only [Act.put, List.setIfInBounds_toArray, List.set_cons_zero, List.set_cons_succ]))
      refine flow2_nil ?_
      intro wZ hE hS
      have HZ := Lib.hid (HB.out.trans (hS.mono HB.out.size))
      clear hE hS
      go_wp2_with fail
      go_ret
      exact ⟨rfl, HZ.out⟩
    · repeat (first | (refine' flow2_pass (o := _) rfl _ _; (focus rfl); simp only [Act.put, List.setIfInBounds_toArray, List.set_cons_zero, List.set_cons_succ]) | (refine' flow2_take (v := _) (o := _) rfl _ _ _; rotate_left; (focus rfl); (focus (intro wS hS; have hE := Ext.refl wS; (skip); go_simp; try (with_reducible (first | exact ⟨rfl, hS, hE⟩ | rfl)); done)); simp only [Act.put, List.setIfInBounds_toArray, List.set_cons_zero, List.set_cons_succ]))
      refine flow2_nil ?_
      intro wZ hE hS
      have HZ := Lib.hid (HB.out.trans (hS.mono HB.out.size))
      clear hE hS
      go_wp2_with fail
      go_ret
      exact ⟨rfl, HZ.out⟩
end Go.Proofs.YtokhnbdhcehonaaGreat
