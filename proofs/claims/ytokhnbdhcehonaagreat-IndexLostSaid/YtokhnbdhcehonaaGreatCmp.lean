/- index: comparisons. -/
import Derived.Test.YtokhnbdhcehonaaGreatObj
import Derived.Test.YtokhnbdhcehonaaGreatFlow2
set_option linter.unusedSimpArgs false
set_option linter.unusedVariables false
namespace Go.Proofs.YtokhnbdhcehonaaGreat
open Go Go.RowKit
set_option maxRecDepth 100000
theorem isnan_int (x : Int) (w : World) : Calls Tryz.prog 125 #[.int .i64 x] w fun e w' => e = .returned (.bool false) ∧ w' = w := by
  have e0 : (x != x) = false := bne_self_eq_false _
  go_enter Tryz.func125, Tryz.ntmps125
  go_wp2_with fail
  go_ret
  exact ⟨rfl, rfl⟩
theorem isnan_str (x : ByteArray) (w : World) : Calls Tryz.prog 126 #[.string x] w fun e w' => e = .returned (.bool false) ∧ w' = w := by
  have e0 : (!(x.toList == x.toList)) = false := by simp
  go_enter Tryz.func126, Tryz.ntmps126
  go_wp2_with fail
  go_ret
  exact ⟨rfl, rfl⟩
theorem cmp_int (x y : Int) (w : World) : Calls Tryz.prog 91 #[.int .i64 x, .int .i64 y] w fun e w' => e = .returned (.int .i64 (c3 ilt x y)) ∧ w' = w := by
  have h1 := isnan_int x w
  have h2 := isnan_int y w
  unfold c3 ilt
  by_cases hxy : x < y
  · have hd : decide (x < y) = true := decide_eq_true hxy
    rw [hd, if_pos rfl]
    go_enter Tryz.func91, Tryz.ntmps91
    go_wp2_with (first | (go_at_call 125; first | (refine h1.mono ?_; rintro e w' ⟨rfl, rfl⟩) | (refine h2.mono ?_; rintro e w' ⟨rfl, rfl⟩)))
    go_ret
    exact ⟨rfl, rfl⟩
  · have hd : decide (x < y) = false := decide_eq_false hxy
    rw [hd, if_neg (by simp)]
    by_cases hyx : y < x
    · have hd2 : decide (y < x) = true := decide_eq_true hyx
      rw [if_neg (by omega)]
      go_enter Tryz.func91, Tryz.ntmps91
      go_wp2_with (first | (go_at_call 125; first | (refine h1.mono ?_; rintro e w' ⟨rfl, rfl⟩) | (refine h2.mono ?_; rintro e w' ⟨rfl, rfl⟩)))
      go_ret
      exact ⟨rfl, rfl⟩
    · have hd2 : decide (y < x) = false := decide_eq_false hyx
      rw [if_pos (by omega)]
      go_enter Tryz.func91, Tryz.ntmps91
      go_wp2_with (first | (go_at_call 125; first | (refine h1.mono ?_; rintro e w' ⟨rfl, rfl⟩) | (refine h2.mono ?_; rintro e w' ⟨rfl, rfl⟩)))
      go_ret
      exact ⟨rfl, rfl⟩
theorem cmp_str (x y : ByteArray) (w : World) : Calls Tryz.prog 93 #[.string x, .string y] w fun e w' => e = .returned (.int .i64 (c3 slt x y)) ∧ w' = w := by
  have h1 := isnan_str x w
  have h2 := isnan_str y w
  unfold c3
  cases hd : slt x y with
  | true =>
    have hd' : Op.bytesLess x.toList y.toList = true := hd
    rw [if_pos rfl]
    go_enter Tryz.func93, Tryz.ntmps93
    go_wp2_with (first | (go_at_call 126; first | (refine h1.mono ?_; rintro e w' ⟨rfl, rfl⟩) | (refine h2.mono ?_; rintro e w' ⟨rfl, rfl⟩)))
    go_ret
    exact ⟨rfl, rfl⟩
  | false =>
    have hd' : Op.bytesLess x.toList y.toList = false := hd
    rw [if_neg (by simp)]
    by_cases e : x = y
    · subst e
      have he : (!(Op.bytesLess x.toList x.toList || x.toList == x.toList)) = false := by simp
      rw [if_pos rfl]
      go_enter Tryz.func93, Tryz.ntmps93
      go_wp2_with (first | (go_at_call 126; first | (refine h1.mono ?_; rintro e w' ⟨rfl, rfl⟩) | (refine h2.mono ?_; rintro e w' ⟨rfl, rfl⟩)))
      go_ret
      exact ⟨rfl, rfl⟩
    · have he : (x.toList == y.toList) = false := by
        simp only [beq_eq_false_iff_ne, ne_eq]
        exact fun h => e (bytes_ext h)
      rw [if_neg e]
      go_enter Tryz.func93, Tryz.ntmps93
      go_wp2_with (first | (go_at_call 126; first | (refine h1.mono ?_; rintro e w' ⟨rfl, rfl⟩) | (refine h2.mono ?_; rintro e w' ⟨rfl, rfl⟩)))
      go_ret
      exact ⟨rfl, rfl⟩
/-- cmp.Or of two -/
theorem or_any (x y : Int) (b : Nat) (w : World) (hb : w.heap[b]? = some (.cells #[.int .i64 x, .int .i64 y] 3)) :
    Calls Tryz.prog 90 #[.slice (some ⟨b, 0, none⟩) 2 2] w fun e w' => e = .returned (.int .i64 (if x = 0 then y else x)) ∧ w' = w := by
  obtain ⟨r, hr⟩ : ∃ r, r = if x = 0 then y else x := ⟨_, rfl⟩
  rw [← hr]
  have H1 : Hid (x ≠ 0 → r = x) := Lib.hid fun h => by rw [hr, if_neg h]
  have H2 : Hid (x = 0 → r = y) := Lib.hid fun h => by rw [hr, if_pos h]
  clear hr
  have c0 : w.cell? ⟨b, 0, none⟩ = some (.int .i64 x) := by rw [row_cell hb]; rfl
  have c1 : w.cell? ⟨b, 1, none⟩ = some (.int .i64 y) := by rw [row_cell hb]; rfl
  go_enter Tryz.func90, Tryz.ntmps90
  go_wp2_with fail
  go_loopw [8] (fun i wq => ∃ k : Nat, k ≤ 2 ∧ i = .int .i64 k ∧ wq = w ∧ (1 ≤ k → x = 0) ∧ (2 ≤ k → y = 0)) (fun i _ => 2 - (intOf i).toNat)
  case atStart => exact ⟨0, by omega, rfl, rfl, fun h => absurd h (by omega), fun h => absurd h (by omega)⟩
  case round =>
    obtain ⟨k, hk, rfl, rfl, h1, h2⟩ := hrel
    by_cases hk0 : k = 0
    · subst hk0
      clear h1 h2
      by_cases hx : x = 0
      · have h0 : (x != 0) = false := by simp [hx]
        go_wp2_with fail
        go_roundw
        case rel => exact ⟨1, by omega, by first | rfl | trivial, by first | rfl | trivial, fun _ => hx, fun h => absurd h (by omega)⟩
        case measure => simp [intOf]
      · have h0 : (x != 0) = true := by simp [hx]
        go_wp2_with fail
        go_returns
        rw [H1.out hx]
        exact ⟨rfl, rfl⟩
    · by_cases hk1 : k = 1
      · subst hk1
        have hx := h1 (by omega)
        clear h1 h2
        by_cases hy : y = 0
        · have h0 : (y != 0) = false := by simp [hy]
          go_wp2_with fail
          go_roundw
          case rel => exact ⟨2, by omega, by first | rfl | trivial, by first | rfl | trivial, fun _ => hx, fun _ => hy⟩
          case measure => simp [intOf]
        · have h0 : (y != 0) = true := by simp [hy]
          go_wp2_with fail
          go_returns
          rw [H2.out hx]
          exact ⟨rfl, rfl⟩
      · have hk2 : k = 2 := by omega
        subst hk2
        have hx := h1 (by omega)
        have hy := h2 (by omega)
        clear h1 h2
        go_wp2_with fail
        go_returns
        rw [H2.out hx, hy]
        exact ⟨rfl, rfl⟩
/-! ### the orders of the four kinds of rows -/
abbrev kH (x : Hd) : Int × Int := (x.e, x.s)
abbrev kF (x : Fl) : ByteArray := x.up
abbrev kN (x : Nm) : ByteArray × ByteArray := (x.dir, x.name)
abbrev kB (x : Bl) : ByteArray × Int := (x.up, x.no)
abbrev lH := lex ilt ilt
abbrev lF := slt
abbrev lN := lex slt slt
abbrev lB := lex slt ilt
theorem lH_lin : Lin lH := lex_lin ilt_lin ilt_lin
theorem lF_lin : Lin lF := slt_lin
theorem lN_lin : Lin lN := lex_lin slt_lin slt_lin
theorem lB_lin : Lin lB := lex_lin slt_lin ilt_lin
theorem cmp_int' (x y : Int) (w : World) : Calls Tryz.prog 91 #[.int .i64 x, .int .i64 y] w fun e w' => e = .returned (.int .i64 (c3 ilt x y)) ∧ Below w.heap.size w w' :=
  (cmp_int x y w).mono fun e w' h => ⟨h.1, by rw [h.2]; exact Below.refl _ _⟩
theorem cmp_str' (x y : ByteArray) (w : World) : Calls Tryz.prog 93 #[.string x, .string y] w fun e w' => e = .returned (.int .i64 (c3 slt x y)) ∧ Below w.heap.size w w' :=
  (cmp_str x y w).mono fun e w' h => ⟨h.1, by rw [h.2]; exact Below.refl _ _⟩
theorem heap_old_at {W : World} {o x : Obj} {q : Nat} (h : W.heap[q]? = some x) : (W.alloc o).heap[q]? = some x := (alloc_old _ _ _ (heap_lt h)).trans h
theorem heap_new_at (W : World) (o : Obj) {S : Nat} (h : W.heap.size = S) : (W.alloc o).heap[S]? = some o := h ▸ heap_alloc_new W o
theorem cached_any (x y : Fl) (w : World) : Calls Tryz.prog 43 #[.agg (arr x), .agg (arr y)] w fun e w' => e = .returned (.int .i64 (c3 lF (kF x) (kF y))) ∧ Below w.heap.size w w' := by
  have h1 := fun w => cmp_str x.up y.up w
  have c0 : ((w.alloc (.cells (arr x) 50)).alloc (.cells (arr y) 50)).cell? ⟨w.heap.size, 0, none⟩ = some (.string x.up) := by rw [row_cell (heap_old_at (heap_alloc_new _ _))]; rfl
  have c1 : ((w.alloc (.cells (arr x) 50)).alloc (.cells (arr y) 50)).cell? ⟨w.heap.size + 1, 0, none⟩ = some (.string y.up) := by rw [row_cell (heap_new_at _ _ (alloc_size _ _))]; rfl
  go_enter Tryz.func43, Tryz.ntmps43
  go_wp2_with fail
  refine (h1 _).mono ?_
  rintro e w' ⟨rfl, rfl⟩
  go_wp2_with fail
  go_ret
  exact ⟨rfl, by go_grown⟩
set_option maxHeartbeats 4000000 in
theorem held_any (x y : Hd) (w : World) : Calls Tryz.prog 40 #[.agg (arr x), .agg (arr y)] w fun e w' => e = .returned (.int .i64 (c3 lH (kH x) (kH y))) ∧ Below w.heap.size w w' := by
  rw [← c3_lex ilt_lin (x.e) (y.e) (x.s) (y.s)]
  obtain ⟨W, hW⟩ : ∃ W, W = (w.alloc (.cells (arr x) 40)).alloc (.cells (arr y) 40) := ⟨_, rfl⟩
  have hb : Below w.heap.size w W := by rw [hW]; go_grown
  have x0 : W.heap[w.heap.size]? = some (.cells (arr x) 40) := by rw [hW]; exact heap_old_at (heap_alloc_new _ _)
  have x1 : W.heap[w.heap.size + 1]? = some (.cells (arr y) 40) := by rw [hW]; exact heap_new_at _ _ (alloc_size _ _)
  have HC : Hid (∀ wS, Below W.heap.size W wS → wS.cell? ⟨w.heap.size, 0, none⟩ = some (.int .i64 x.e) ∧ wS.cell? ⟨w.heap.size + 1, 0, none⟩ = some (.int .i64 y.e) ∧ wS.cell? ⟨w.heap.size, 1, none⟩ = some (.int .i64 x.s) ∧ wS.cell? ⟨w.heap.size + 1, 1, none⟩ = some (.int .i64 y.s)) := Lib.hid fun wS h => by
    have y0 := (h.block _ (heap_lt x0)).trans x0
    have y1 := (h.block _ (heap_lt x1)).trans x1
    refine ⟨?_, ?_, ?_, ?_⟩ <;> first | (rw [row_cell y0]; rfl) | (rw [row_cell y1]; rfl)
  have HB := Lib.hid hb
  have HW := Lib.hid hW
  clear x0 x1 hb hW
  go_enter Tryz.func40, Tryz.ntmps40
  go_wp2_with fail
  rw [← HW.out]
  refine wp_region_flow2_lit [(0, false), (1, false), (2, false), (3, false), (4, false), (5, false), (6, false), (7, false), (8, false), (9, false), (10, true), (11, true), (12, false)] (fun wS => Below W.heap.size W wS) (by kernel_rfl) (by kernel_rfl) (by kernel_rfl) (by go_grown) ?_
  repeat (first | (refine' flow2_pass (o := _) rfl _ _; (focus rfl); simp only [Act.put, List.setIfInBounds_toArray, List.set_cons_zero, List.set_cons_succ]) | (refine' flow2_take (v := _) (o := _) rfl _ _ _; rotate_left; (focus rfl); (focus (intro wS hS; have hE := Ext.refl wS; (obtain ⟨d0, d1, d2, d3⟩ := HC.out wS hS); go_simp; try (with_reducible (first | exact ⟨rfl, hS, hE⟩ | rfl)); done)); simp only [Act.put, List.setIfInBounds_toArray, List.set_cons_zero, List.set_cons_succ]))
  (refine' flow2_take (v := _) (o := _) rfl _ _ _; rotate_left; (focus rfl); (focus (intro wS hS; go_simp; refine (cmp_int' _ _ _).mono ?_; rintro e w' ⟨rfl, hb⟩; refine ⟨?_, hS.trans (hb.mono hS.size), hb⟩; rfl)); simp only [Act.put, List.setIfInBounds_toArray, List.set_cons_zero, List.set_cons_succ])
  repeat (first | (refine' flow2_pass (o := _) rfl _ _; (focus rfl); simp only [Act.put, List.setIfInBounds_toArray, List.set_cons_zero, List.set_cons_succ]) | (refine' flow2_take (v := _) (o := _) rfl _ _ _; rotate_left; (focus rfl); (focus (intro wS hS; have hE := Ext.refl wS; (obtain ⟨d0, d1, d2, d3⟩ := HC.out wS hS); go_simp; try (with_reducible (first | exact ⟨rfl, hS, hE⟩ | rfl)); done)); simp only [Act.put, List.setIfInBounds_toArray, List.set_cons_zero, List.set_cons_succ]))
  (refine' flow2_take (v := _) (o := _) rfl _ _ _; rotate_left; (focus rfl); (focus (intro wS hS; go_simp; refine (cmp_int' _ _ _).mono ?_; rintro e w' ⟨rfl, hb⟩; refine ⟨?_, hS.trans (hb.mono hS.size), hb⟩; rfl)); simp only [Act.put, List.setIfInBounds_toArray, List.set_cons_zero, List.set_cons_succ])
  (refine' flow2_turn (o := _) rfl _ _; (focus rfl); intro wT hE hS K hK; (skip); go_simp)
  refine hK _ _ (hS.trans ((show Below wT.heap.size wT (wT.alloc (.cells #[.int .i64 (c3 ilt x.e y.e), .int .i64 (c3 ilt x.s y.s)] 3)) by go_grown).mono hS.size)) ?_
  clear hK hE hS K
  simp only [Act.put, List.setIfInBounds_toArray, List.set_cons_zero, List.set_cons_succ]
  refine flow2_turn (o := _) rfl rfl ?_
  intro wU hE hS K hK
  go_simp
  refine (or_any _ _ wT.heap.size _ ((hE.block _ (by rw [alloc_size]; omega)).trans (heap_alloc_new wT _))).mono ?_
  rintro e w3 ⟨rfl, rfl⟩
  refine hK _ _ hS ?_
  clear hK hE hS K
  simp only [Act.put, List.setIfInBounds_toArray, List.set_cons_zero, List.set_cons_succ]
  repeat (first | (refine' flow2_pass (o := _) rfl _ _; (focus rfl); simp only [Act.put, List.setIfInBounds_toArray, List.set_cons_zero, List.set_cons_succ]) | (refine' flow2_take (v := _) (o := _) rfl _ _ _; rotate_left; (focus rfl); (focus (intro wS hS; have hE := Ext.refl wS; (skip); go_simp; try (with_reducible (first | exact ⟨rfl, hS, hE⟩ | rfl)); done)); simp only [Act.put, List.setIfInBounds_toArray, List.set_cons_zero, List.set_cons_succ]))
  refine flow2_nil ?_
  intro wZ hE hS
  go_wp2_with fail
  all_goals (go_ret; exact ⟨rfl, HB.out.trans (hS.mono HB.out.size)⟩)
set_option maxHeartbeats 4000000 in
theorem known_any (x y : Nm) (w : World) : Calls Tryz.prog 45 #[.agg (arr x), .agg (arr y)] w fun e w' => e = .returned (.int .i64 (c3 lN (kN x) (kN y))) ∧ Below w.heap.size w w' := by
  rw [← c3_lex slt_lin (x.dir) (y.dir) (x.name) (y.name)]
  obtain ⟨W, hW⟩ : ∃ W, W = (w.alloc (.cells (arr x) 54)).alloc (.cells (arr y) 54) := ⟨_, rfl⟩
  have hb : Below w.heap.size w W := by rw [hW]; go_grown
  have x0 : W.heap[w.heap.size]? = some (.cells (arr x) 54) := by rw [hW]; exact heap_old_at (heap_alloc_new _ _)
  have x1 : W.heap[w.heap.size + 1]? = some (.cells (arr y) 54) := by rw [hW]; exact heap_new_at _ _ (alloc_size _ _)
  have HC : Hid (∀ wS, Below W.heap.size W wS → wS.cell? ⟨w.heap.size, 0, none⟩ = some (.string x.dir) ∧ wS.cell? ⟨w.heap.size + 1, 0, none⟩ = some (.string y.dir) ∧ wS.cell? ⟨w.heap.size, 1, none⟩ = some (.string x.name) ∧ wS.cell? ⟨w.heap.size + 1, 1, none⟩ = some (.string y.name)) := Lib.hid fun wS h => by
    have y0 := (h.block _ (heap_lt x0)).trans x0
    have y1 := (h.block _ (heap_lt x1)).trans x1
    refine ⟨?_, ?_, ?_, ?_⟩ <;> first | (rw [row_cell y0]; rfl) | (rw [row_cell y1]; rfl)
  have HB := Lib.hid hb
  have HW := Lib.hid hW
  clear x0 x1 hb hW
  go_enter Tryz.func45, Tryz.ntmps45
  go_wp2_with fail
  rw [← HW.out]
  refine wp_region_flow2_lit [(0, false), (1, false), (2, false), (3, false), (4, false), (5, false), (6, false), (7, false), (8, false), (9, false), (10, true), (11, true), (12, false)] (fun wS => Below W.heap.size W wS) (by kernel_rfl) (by kernel_rfl) (by kernel_rfl) (by go_grown) ?_
  repeat (first | (refine' flow2_pass (o := _) rfl _ _; (focus rfl); simp only [Act.put, List.setIfInBounds_toArray, List.set_cons_zero, List.set_cons_succ]) | (refine' flow2_take (v := _) (o := _) rfl _ _ _; rotate_left; (focus rfl); (focus (intro wS hS; have hE := Ext.refl wS; (obtain ⟨d0, d1, d2, d3⟩ := HC.out wS hS); go_simp; try (with_reducible (first | exact ⟨rfl, hS, hE⟩ | rfl)); done)); simp only [Act.put, List.setIfInBounds_toArray, List.set_cons_zero, List.set_cons_succ]))
  (refine' flow2_take (v := _) (o := _) rfl _ _ _; rotate_left; (focus rfl); (focus (intro wS hS; go_simp; refine (cmp_str' _ _ _).mono ?_; rintro e w' ⟨rfl, hb⟩; refine ⟨?_, hS.trans (hb.mono hS.size), hb⟩; rfl)); simp only [Act.put, List.setIfInBounds_toArray, List.set_cons_zero, List.set_cons_succ])
  repeat (first | (refine' flow2_pass (o := _) rfl _ _; (focus rfl); simp only [Act.put, List.setIfInBounds_toArray, List.set_cons_zero, List.set_cons_succ]) | (refine' flow2_take (v := _) (o := _) rfl _ _ _; rotate_left; (focus rfl); (focus (intro wS hS; have hE := Ext.refl wS; (obtain ⟨d0, d1, d2, d3⟩ := HC.out wS hS); go_simp; try (with_reducible (first | exact ⟨rfl, hS, hE⟩ | rfl)); done)); simp only [Act.put, List.setIfInBounds_toArray, List.set_cons_zero, List.set_cons_succ]))
  (refine' flow2_take (v := _) (o := _) rfl _ _ _; rotate_left; (focus rfl); (focus (intro wS hS; go_simp; refine (cmp_str' _ _ _).mono ?_; rintro e w' ⟨rfl, hb⟩; refine ⟨?_, hS.trans (hb.mono hS.size), hb⟩; rfl)); simp only [Act.put, List.setIfInBounds_toArray, List.set_cons_zero, List.set_cons_succ])
  (refine' flow2_turn (o := _) rfl _ _; (focus rfl); intro wT hE hS K hK; (skip); go_simp)
  refine hK _ _ (hS.trans ((show Below wT.heap.size wT (wT.alloc (.cells #[.int .i64 (c3 slt x.dir y.dir), .int .i64 (c3 slt x.name y.name)] 3)) by go_grown).mono hS.size)) ?_
  clear hK hE hS K
  simp only [Act.put, List.setIfInBounds_toArray, List.set_cons_zero, List.set_cons_succ]
  refine flow2_turn (o := _) rfl rfl ?_
  intro wU hE hS K hK
  go_simp
  refine (or_any _ _ wT.heap.size _ ((hE.block _ (by rw [alloc_size]; omega)).trans (heap_alloc_new wT _))).mono ?_
  rintro e w3 ⟨rfl, rfl⟩
  refine hK _ _ hS ?_
  clear hK hE hS K
  simp only [Act.put, List.setIfInBounds_toArray, List.set_cons_zero, List.set_cons_succ]
  repeat (first | (refine' flow2_pass (o := _) rfl _ _; (focus rfl); simp only [Act.put, List.setIfInBounds_toArray, List.set_cons_zero, List.set_cons_succ]) | (refine' flow2_take (v := _) (o := _) rfl _ _ _; rotate_left; (focus rfl); (focus (intro wS hS; have hE := Ext.refl wS; (skip); go_simp; try (with_reducible (first | exact ⟨rfl, hS, hE⟩ | rfl)); done)); simp only [Act.put, List.setIfInBounds_toArray, List.set_cons_zero, List.set_cons_succ]))
  refine flow2_nil ?_
  intro wZ hE hS
  go_wp2_with fail
  all_goals (go_ret; exact ⟨rfl, HB.out.trans (hS.mono HB.out.size)⟩)
set_option maxHeartbeats 4000000 in
theorem placed_any (x y : Bl) (w : World) : Calls Tryz.prog 47 #[.agg (arr x), .agg (arr y)] w fun e w' => e = .returned (.int .i64 (c3 lB (kB x) (kB y))) ∧ Below w.heap.size w w' := by
  rw [← c3_lex slt_lin (x.up) (y.up) (x.no) (y.no)]
  obtain ⟨W, hW⟩ : ∃ W, W = (w.alloc (.cells (arr x) 59)).alloc (.cells (arr y) 59) := ⟨_, rfl⟩
  have hb : Below w.heap.size w W := by rw [hW]; go_grown
  have x0 : W.heap[w.heap.size]? = some (.cells (arr x) 59) := by rw [hW]; exact heap_old_at (heap_alloc_new _ _)
  have x1 : W.heap[w.heap.size + 1]? = some (.cells (arr y) 59) := by rw [hW]; exact heap_new_at _ _ (alloc_size _ _)
  have HC : Hid (∀ wS, Below W.heap.size W wS → wS.cell? ⟨w.heap.size, 0, none⟩ = some (.string x.up) ∧ wS.cell? ⟨w.heap.size + 1, 0, none⟩ = some (.string y.up) ∧ wS.cell? ⟨w.heap.size, 1, none⟩ = some (.int .i64 x.no) ∧ wS.cell? ⟨w.heap.size + 1, 1, none⟩ = some (.int .i64 y.no)) := Lib.hid fun wS h => by
    have y0 := (h.block _ (heap_lt x0)).trans x0
    have y1 := (h.block _ (heap_lt x1)).trans x1
    refine ⟨?_, ?_, ?_, ?_⟩ <;> first | (rw [row_cell y0]; rfl) | (rw [row_cell y1]; rfl)
  have HB := Lib.hid hb
  have HW := Lib.hid hW
  clear x0 x1 hb hW
  go_enter Tryz.func47, Tryz.ntmps47
  go_wp2_with fail
  rw [← HW.out]
  refine wp_region_flow2_lit [(0, false), (1, false), (2, false), (3, false), (4, false), (5, false), (6, false), (7, false), (8, false), (9, false), (10, true), (11, true), (12, false)] (fun wS => Below W.heap.size W wS) (by kernel_rfl) (by kernel_rfl) (by kernel_rfl) (by go_grown) ?_
  repeat (first | (refine' flow2_pass (o := _) rfl _ _; (focus rfl); simp only [Act.put, List.setIfInBounds_toArray, List.set_cons_zero, List.set_cons_succ]) | (refine' flow2_take (v := _) (o := _) rfl _ _ _; rotate_left; (focus rfl); (focus (intro wS hS; have hE := Ext.refl wS; (obtain ⟨d0, d1, d2, d3⟩ := HC.out wS hS); go_simp; try (with_reducible (first | exact ⟨rfl, hS, hE⟩ | rfl)); done)); simp only [Act.put, List.setIfInBounds_toArray, List.set_cons_zero, List.set_cons_succ]))
  (refine' flow2_take (v := _) (o := _) rfl _ _ _; rotate_left; (focus rfl); (focus (intro wS hS; go_simp; refine (cmp_str' _ _ _).mono ?_; rintro e w' ⟨rfl, hb⟩; refine ⟨?_, hS.trans (hb.mono hS.size), hb⟩; rfl)); simp only [Act.put, List.setIfInBounds_toArray, List.set_cons_zero, List.set_cons_succ])
  repeat (first | (refine' flow2_pass (o := _) rfl _ _; (focus rfl); simp only [Act.put, List.setIfInBounds_toArray, List.set_cons_zero, List.set_cons_succ]) | (refine' flow2_take (v := _) (o := _) rfl _ _ _; rotate_left; (focus rfl); (focus (intro wS hS; have hE := Ext.refl wS; (obtain ⟨d0, d1, d2, d3⟩ := HC.out wS hS); go_simp; try (with_reducible (first | exact ⟨rfl, hS, hE⟩ | rfl)); done)); simp only [Act.put, List.setIfInBounds_toArray, List.set_cons_zero, List.set_cons_succ]))
  (refine' flow2_take (v := _) (o := _) rfl _ _ _; rotate_left; (focus rfl); (focus (intro wS hS; go_simp; refine (cmp_int' _ _ _).mono ?_; rintro e w' ⟨rfl, hb⟩; refine ⟨?_, hS.trans (hb.mono hS.size), hb⟩; rfl)); simp only [Act.put, List.setIfInBounds_toArray, List.set_cons_zero, List.set_cons_succ])
  (refine' flow2_turn (o := _) rfl _ _; (focus rfl); intro wT hE hS K hK; (skip); go_simp)
  refine hK _ _ (hS.trans ((show Below wT.heap.size wT (wT.alloc (.cells #[.int .i64 (c3 slt x.up y.up), .int .i64 (c3 ilt x.no y.no)] 3)) by go_grown).mono hS.size)) ?_
  clear hK hE hS K
  simp only [Act.put, List.setIfInBounds_toArray, List.set_cons_zero, List.set_cons_succ]
  refine flow2_turn (o := _) rfl rfl ?_
  intro wU hE hS K hK
  go_simp
  refine (or_any _ _ wT.heap.size _ ((hE.block _ (by rw [alloc_size]; omega)).trans (heap_alloc_new wT _))).mono ?_
  rintro e w3 ⟨rfl, rfl⟩
  refine hK _ _ hS ?_
  clear hK hE hS K
  simp only [Act.put, List.setIfInBounds_toArray, List.set_cons_zero, List.set_cons_succ]
  repeat (first | (refine' flow2_pass (o := _) rfl _ _; (focus rfl); simp only [Act.put, List.setIfInBounds_toArray, List.set_cons_zero, List.set_cons_succ]) | (refine' flow2_take (v := _) (o := _) rfl _ _ _; rotate_left; (focus rfl); (focus (intro wS hS; have hE := Ext.refl wS; (skip); go_simp; try (with_reducible (first | exact ⟨rfl, hS, hE⟩ | rfl)); done)); simp only [Act.put, List.setIfInBounds_toArray, List.set_cons_zero, List.set_cons_succ]))
  refine flow2_nil ?_
  intro wZ hE hS
  go_wp2_with fail
  all_goals (go_ret; exact ⟨rfl, HB.out.trans (hS.mono HB.out.size)⟩)
end Go.Proofs.YtokhnbdhcehonaaGreat
