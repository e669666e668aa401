/- pend.Table.Due: slices.SortFunc over calls: the library's contract laid at this program; the closure. -/
import Derived.Test.YtbhiddppohbjhaaEq
import Derived.Test.YtbhiddppohbjhaaFlow2
import Derived.Shelf.SlSortCmp.SmallK
import Derived.Shelf.SlSortCmp.Xorshift
import Derived.Shelf.SlicesG.Cmp
import Derived.Shelf.Small.Bits
import Derived.Deep.CutRange
import Derived.Deep.RegionHeld3
namespace Go.Proofs.Ytbhiddppohbjhaa
open Go Go.RowKit Go.Shelf Go.Lib Go.Sort
set_option maxRecDepth 100000
def sortP_ren : Go.Shelf.Ren := ⟨fun | 6 => 28 | 15 => 34 | 14 => 33 | 28 => 44 | 29 => 45 | 20 => 36 | 21 => 37 | 22 => 38 | 23 => 39 | 24 => 40 | 25 => 41 | 26 => 42 | 27 => 43 | 46 => 46 | 47 => 47 | 48 => 48 | 49 => 49 | 50 => 50 | 57 => 51 | n => n, fun | 22 => 48 | 24 => 37 | 25 => 67 | 3 => 3 | 39 => 70 | 0 => 0 | 53 => 81 | 55 => 83 | 4 => 4 | 46 => 74 | 45 => 73 | 50 => 78 | 5 => 5 | 9 => 9 | 66 => 84 | 70 => 88 | 76 => 90 | 77 => 91 | n => n, fun | n => n⟩
theorem sortP : Go.Proofs.SlLaysF0.n6 Try.prog sortP_ren :=
  { mixed := by kernel_rfl,
    f6 := ⟨Try.f28.name, by decide, Try.func28.trans (congrArg some (by kernel_rfl))⟩,
    f14 := ⟨Try.f33.name, by decide, Try.func33.trans (congrArg some (by kernel_rfl))⟩,
    f15 := Try.func34.trans (congrArg some (by kernel_rfl)),
    f20 := ⟨Try.f36.name, by decide, Try.func36.trans (congrArg some (by kernel_rfl))⟩,
    f21 := ⟨Try.f37.name, by decide, Try.func37.trans (congrArg some (by kernel_rfl))⟩,
    f22 := ⟨Try.f38.name, by decide, Try.func38.trans (congrArg some (by kernel_rfl))⟩,
    f23 := ⟨Try.f39.name, by decide, Try.func39.trans (congrArg some (by kernel_rfl))⟩,
    f24 := ⟨Try.f40.name, by decide, Try.func40.trans (congrArg some (by kernel_rfl))⟩,
    f25 := ⟨Try.f41.name, by decide, Try.func41.trans (congrArg some (by kernel_rfl))⟩,
    f26 := ⟨Try.f42.name, by decide, Try.func42.trans (congrArg some (by kernel_rfl))⟩,
    f27 := ⟨Try.f43.name, by decide, Try.func43.trans (congrArg some (by kernel_rfl))⟩,
    f28 := Try.func44.trans (congrArg some (by kernel_rfl)),
    f29 := Try.func45.trans (congrArg some (by kernel_rfl)),
    f46 := ⟨Try.f46.name, by decide, Try.func46.trans (congrArg some (by kernel_rfl))⟩,
    f47 := Try.func47.trans (congrArg some (by kernel_rfl)),
    f48 := Try.func48.trans (congrArg some (by kernel_rfl)),
    f49 := ⟨Try.f49.name, by decide, Try.func49.trans (congrArg some (by kernel_rfl))⟩,
    f50 := ⟨Try.f50.name, by decide, Try.func50.trans (congrArg some (by kernel_rfl))⟩,
    f57 := ⟨Try.f51.name, by decide, Try.func51.trans (congrArg some (by kernel_rfl))⟩,
    t0 := Try.underlying0,
    a0 := Try.isAgg0,
    z0 := Try.sizeOf0,
    v0 := Try.zeroValue0,
    t3 := Try.underlying3,
    a3 := Try.isAgg3,
    z3 := Try.sizeOf3,
    v3 := Try.zeroValue3,
    t4 := Try.underlying4,
    a4 := Try.isAgg4,
    z4 := Try.sizeOf4,
    v4 := Try.zeroValue4,
    t5 := Try.underlying5,
    a5 := Try.isAgg5,
    z5 := Try.sizeOf5,
    v5 := Try.zeroValue5,
    t9 := Try.underlying9,
    a9 := Try.isAgg9,
    z9 := Try.sizeOf9,
    v9 := Try.zeroValue9,
    t22 := Try.underlying48,
    a22 := Try.isAgg48,
    z22 := Try.sizeOf48,
    v22 := Try.zeroValue48,
    t25 := Try.underlying67,
    a25 := Try.isAgg67,
    z25 := Try.sizeOf67,
    v25 := Try.zeroValue67,
    t39 := Try.underlying70,
    a39 := Try.isAgg70,
    z39 := Try.sizeOf70,
    v39 := Try.zeroValue70,
    t45 := Try.underlying73,
    a45 := Try.isAgg73,
    z45 := Try.sizeOf73,
    v45 := Try.zeroValue73,
    t46 := Try.underlying74,
    a46 := Try.isAgg74,
    z46 := Try.sizeOf74,
    v46 := Try.zeroValue74,
    t50 := Try.underlying78,
    a50 := Try.isAgg78,
    z50 := Try.sizeOf78,
    v50 := Try.zeroValue78,
    t53 := Try.underlying81,
    a53 := Try.isAgg81,
    z53 := Try.sizeOf81,
    v53 := Try.zeroValue81,
    t55 := Try.underlying83,
    a55 := Try.isAgg83,
    z55 := Try.sizeOf83,
    v55 := Try.zeroValue83,
    t66 := Try.underlying84,
    a66 := Try.isAgg84,
    z66 := Try.sizeOf84,
    v66 := Try.zeroValue84,
    t70 := Try.underlying88,
    a70 := Try.isAgg88,
    z70 := Try.sizeOf88,
    v70 := Try.zeroValue88,
    t76 := Try.underlying90,
    a76 := Try.isAgg90,
    z76 := Try.sizeOf90,
    v76 := Try.zeroValue90,
    t77 := Try.underlying91,
    a77 := Try.isAgg91,
    z77 := Try.sizeOf91,
    v77 := Try.zeroValue91 }
def cmpI_ren : Go.Shelf.Ren := ⟨fun | 5 => 31 | 7 => 35 | n => n, fun | 22 => 3 | 3 => 3 | 4 => 4 | n => n, fun | n => n⟩
theorem cmpI : Go.Proofs.SlLaysC2.n5 Try.prog cmpI_ren :=
  { mixed := by kernel_rfl,
    f5 := ⟨Try.f31.name, by decide, Try.func31.trans (congrArg some (by kernel_rfl))⟩,
    f7 := ⟨Try.f35.name, by decide, Try.func35.trans (congrArg some (by kernel_rfl))⟩,
    t3 := Try.underlying3,
    a3 := Try.isAgg3,
    z3 := Try.sizeOf3,
    v3 := Try.zeroValue3,
    t4 := Try.underlying4,
    a4 := Try.isAgg4,
    z4 := Try.sizeOf4,
    v4 := Try.zeroValue4,
    t22 := Try.underlying3,
    a22 := Try.isAgg3,
    z22 := Try.sizeOf3,
    v22 := Try.zeroValue3 }
/-- a call that is one -/
abbrev Pk := { p : Pd // p.ok }
instance : Inhabited Pk := ⟨⟨zP, zP_ok⟩⟩
def encP (x : Pk) : List Value := x.1.cells
theorem encP_len (x : Pk) : (encP x).length = 34 := Pd.len x.2
theorem encP_one (x : Pk) : ∀ v ∈ encP x, v.oneCell' = true := Pd.one x.2
/-- by when they are due, then by their clients -/
def cfP (x y : Pk) : Int := if Lib.compareInt x.1.du y.1.du ≠ 0 then Lib.compareInt x.1.du y.1.du else Lib.compareInt x.1.cl y.1.cl
set_option maxHeartbeats 4000000 in
theorem or_any (a b : Int) (w : World) (q : Nat) (h0 : w.cell? ⟨q, 0, none⟩ = some (.int .i64 a)) (h1 : w.cell? ⟨q, 1, none⟩ = some (.int .i64 b)) :
    Calls Try.prog 30 #[.slice (some ⟨q, 0, none⟩) 2 2] w fun e w' => e = .returned (.int .i64 (if a ≠ 0 then a else b)) ∧ w = w' := by
  by_cases ha : a = 0
  · have g0 : (a != 0) = false := by simp [ha]
    by_cases hb : b = 0
    · have g1 : (b != 0) = false := by simp [hb]
      go_enter Try.func30, Try.ntmps30
      go_wp2
      refine wp_loop_rounds 3 ?_
      rw [rounds_succ]
      go_wp2
      rw [rounds_succ]
      go_wp2
      rw [rounds_succ]
      go_wp2
      go_ret
      exact ⟨by simp [ha, hb], rfl⟩
    · have g1 : (b != 0) = true := by simp [hb]
      go_enter Try.func30, Try.ntmps30
      go_wp2
      refine wp_loop_rounds 2 ?_
      rw [rounds_succ]
      go_wp2
      rw [rounds_succ]
      go_wp2
      go_ret
      exact ⟨by simp [ha], rfl⟩
  · have g0 : (a != 0) = true := by simp [ha]
    go_enter Try.func30, Try.ntmps30
    go_wp2
    refine wp_loop_rounds 1 ?_
    rw [rounds_succ]
    go_wp2
    go_ret
    exact ⟨by simp [ha], rfl⟩
theorem or_new (a b r : Int) (hr : r = if a ≠ 0 then a else b) (w0 : World) (N : Nat) (hN : w0.heap.size = N) :
    Calls Try.prog 30 #[.slice (some ⟨N, 0, none⟩) 2 2] (w0.alloc (.cells #[.int .i64 a, .int .i64 b] 3)) fun e w' => e = .returned (.int .i64 r) ∧ w0.alloc (.cells #[.int .i64 a, .int .i64 b] 3) = w' := by
  have h := heap_new_at w0 (.cells #[.int .i64 a, .int .i64 b] 3) hN
  rw [hr]
  exact or_any a b _ N (by rw [row_cell h]; rfl) (by rw [row_cell h]; rfl)
def GrowOf (W w : World) : Prop := ∃ q os', w = grow (W.drewN q) os'
theorem growOf_alloc {W w : World} (h : GrowOf W w) (o : Obj) : GrowOf W (w.alloc o) := by
  obtain ⟨q, os, rfl⟩ := h
  exact ⟨q, os ++ #[o], by rw [alloc_eq_grow, grow_grow]⟩
theorem growOf_drew {W w : World} (h : GrowOf W w) : GrowOf W w.drew := by
  obtain ⟨q, os, rfl⟩ := h
  exact ⟨q + 1, os, rfl⟩
/-- what the closure's region looks at -/
structure SC (W : World) (x y : Pd) (w : World) : Prop where
  b0 : w.heap[W.heap.size]? = some (.cells x.arr 37)
  b1 : w.heap[W.heap.size + 1]? = some (.cells y.arr 37)
  gr : GrowOf W w
theorem SC.a9 {W w : World} {x y : Pd} (h : SC W x y w) : w.cell? ⟨W.heap.size, 9, none⟩ = some (.int .i64 x.du) := by rw [row_cell h.b0]; rfl
theorem SC.a0 {W w : World} {x y : Pd} (h : SC W x y w) : w.cell? ⟨W.heap.size, 0, none⟩ = some (.int .i64 x.cl) := by rw [row_cell h.b0]; rfl
theorem SC.b9 {W w : World} {x y : Pd} (h : SC W x y w) : w.cell? ⟨W.heap.size + 1, 9, none⟩ = some (.int .i64 y.du) := by rw [row_cell h.b1]; rfl
theorem SC.b0' {W w : World} {x y : Pd} (h : SC W x y w) : w.cell? ⟨W.heap.size + 1, 0, none⟩ = some (.int .i64 y.cl) := by rw [row_cell h.b1]; rfl
theorem SC.alloc {W w : World} {x y : Pd} (h : SC W x y w) (o : Obj) : SC W x y (w.alloc o) := ⟨heap_old_at h.b0, heap_old_at h.b1, growOf_alloc h.gr o⟩
theorem sc_start (W : World) (x y : Pd) : SC W x y ((W.alloc (.cells x.arr 37)).alloc (.cells y.arr 37)).drew :=
  ⟨heap_old_at (heap_alloc_new W _), heap_new_at _ _ (alloc_size _ _), growOf_drew (growOf_alloc (growOf_alloc ⟨0, #[], by simp [grow, World.drewN]⟩ _) _)⟩
set_option maxHeartbeats 8000000 in
theorem clos_any (x y : Pk) (W : World) : Calls Try.prog 29 #[.agg (encP x).toArray, .agg (encP y).toArray] W fun e w' => e = .returned (.int .i64 (cfP x y)) ∧ ∃ q os', w' = grow (W.drewN q) os' := by
  have hc1 := fun W' => AnyG.cmp_Compare_int cmpI x.1.du y.1.du W'
  change ∀ W', Calls Try.prog 31 _ _ _ at hc1
  have hc2 := fun W' => AnyG.cmp_Compare_int cmpI x.1.cl y.1.cl W'
  change ∀ W', Calls Try.prog 31 _ _ _ at hc2
  have hcf : cfP x y = if Lib.compareInt x.1.du y.1.du ≠ 0 then Lib.compareInt x.1.du y.1.du else Lib.compareInt x.1.cl y.1.cl := rfl
  rw [hcf]
  clear hcf
  generalize Lib.compareInt x.1.du y.1.du = c1 at *
  generalize Lib.compareInt x.1.cl y.1.cl = c2 at *
  obtain ⟨r, hr⟩ : ∃ r, r = if c1 ≠ 0 then c1 else c2 := ⟨_, rfl⟩
  rw [← hr]
  have HR := Lib.hid hr
  clear hr
  have HC1 := Lib.hid hc1
  have HC2 := Lib.hid hc2
  have a9 : x.1.arr[9]? = some (.int .i64 x.1.du) := rfl
  have a0 : x.1.arr[0]? = some (.int .i64 x.1.cl) := rfl
  have b9 : y.1.arr[9]? = some (.int .i64 y.1.du) := rfl
  have b0 : y.1.arr[0]? = some (.int .i64 y.1.cl) := rfl
  clear hc1 hc2
  show Calls Try.prog 29 #[.agg x.1.arr, .agg y.1.arr] W _
  go_enter Try.func29, Try.ntmps29
  go_upto_region 1 with fail
  refine wp_region_flow2_lit [(0, false), (1, false), (2, false), (3, false), (4, false), (5, false), (6, false), (7, false), (8, false), (9, false), (10, false), (11, false), (12, true), (13, true), (14, false)] (SC W x.1 y.1) (by kernel_rfl) (by kernel_rfl) (by kernel_rfl) (sc_start W x.1 y.1) ?_
  repeat (first | (refine' flow2_pass (o := _) rfl _ _; (focus rfl); simp only [Act.put, List.setIfInBounds_toArray, List.set_cons_zero, List.set_cons_succ]) | (refine' flow2_take (v := _) (o := _) rfl _ _ _; rotate_left; (focus rfl); (focus (intro wS hS; have hE := Ext.refl wS; (have f0 := hS.a9; have f1 := hS.a0; have f2 := hS.b9; have f3 := hS.b0'); go_simp; try (with_reducible (first | exact ⟨rfl, hS, hE⟩ | rfl)); done)); simp only [Act.put, List.setIfInBounds_toArray, List.set_cons_zero, List.set_cons_succ]))
  (refine' flow2_take (v := _) (o := _) rfl _ _ _; rotate_left; (focus rfl); (focus (intro wS hS; go_simp; refine (HC1.out _).mono ?_; rintro e w' ⟨rfl, rfl⟩; refine ⟨?_, hS, Ext.refl _⟩; rfl)); simp only [Act.put, List.setIfInBounds_toArray, List.set_cons_zero, List.set_cons_succ])
  repeat (first | (refine' flow2_pass (o := _) rfl _ _; (focus rfl); simp only [Act.put, List.setIfInBounds_toArray, List.set_cons_zero, List.set_cons_succ]) | (refine' flow2_take (v := _) (o := _) rfl _ _ _; rotate_left; (focus rfl); (focus (intro wS hS; have hE := Ext.refl wS; (have f0 := hS.a9; have f1 := hS.a0; have f2 := hS.b9; have f3 := hS.b0'); go_simp; try (with_reducible (first | exact ⟨rfl, hS, hE⟩ | rfl)); done)); simp only [Act.put, List.setIfInBounds_toArray, List.set_cons_zero, List.set_cons_succ]))
  (refine' flow2_take (v := _) (o := _) rfl _ _ _; rotate_left; (focus rfl); (focus (intro wS hS; go_simp; refine (HC2.out _).mono ?_; rintro e w' ⟨rfl, rfl⟩; refine ⟨?_, hS, Ext.refl _⟩; rfl)); simp only [Act.put, List.setIfInBounds_toArray, List.set_cons_zero, List.set_cons_succ])
  (refine' flow2_turn (o := _) rfl _ _; (focus rfl); intro wT hE hS K hK; (skip); go_simp)
  refine hK _ _ (hS.alloc _) ?_
  clear hK K hE hS
  simp only [Act.put, List.setIfInBounds_toArray, List.set_cons_zero, List.set_cons_succ]
  obtain ⟨w12, hw12⟩ : ∃ w12, w12 = wT := ⟨_, rfl⟩
  subst hw12
  (refine' flow2_turn (o := _) rfl _ _; (focus rfl); intro wT hE hS K hK; (have hb := (hE.block _ (heap_lt (heap_alloc_new w12 (.cells #[.int .i64 c1, .int .i64 c2] 3)))).trans (heap_alloc_new w12 (.cells #[.int .i64 c1, .int .i64 c2] 3))); go_simp)
  refine (or_any c1 c2 _ w12.heap.size (by rw [row_cell hb]; rfl) (by rw [row_cell hb]; rfl)).mono ?_
  rintro e w' ⟨rfl, rfl⟩
  rw [← HR.out]
  refine hK _ _ hS ?_
  clear hK K hE hS hb
  simp only [Act.put, List.setIfInBounds_toArray, List.set_cons_zero, List.set_cons_succ]
  repeat (first | (refine' flow2_pass (o := _) rfl _ _; (focus rfl); simp only [Act.put, List.setIfInBounds_toArray, List.set_cons_zero, List.set_cons_succ]) | (refine' flow2_take (v := _) (o := _) rfl _ _ _; rotate_left; (focus rfl); (focus (intro wS hS; have hE := Ext.refl wS; (skip); go_simp; try (with_reducible (first | exact ⟨rfl, hS, hE⟩ | rfl)); done)); simp only [Act.put, List.setIfInBounds_toArray, List.set_cons_zero, List.set_cons_succ]))
  refine flow2_nil ?_
  intro w9 hE9 hS9
  have HS9 := Lib.hid hS9
  clear hE9 hS9
  go_wp2_with fail
  go_ret
  exact ⟨rfl, HS9.out.gr⟩
end Go.Proofs.Ytbhiddppohbjhaa
