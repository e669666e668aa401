/- ReplayKeeps: the walk. -/
import Derived.Test.YtigdpmbhflojcaaObj
import Derived.Test.YtigdpmbhflojcaaRef
import Derived.Test.YtigdpmbhflojcaaNil
import Derived.Test.YtigdpmbhflojcaaLarge
import Derived.Test.YtigdpmbhflojcaaFlow2
import Derived.Test.YtigdpmbhflojcaaProg
import Derived.WalkKit
import Derived.ProofKit
import Derived.Handy
import Derived.Lib.Hide
namespace Go.Proofs.Ytigdpmbhflojcaa
open Go Go.RowKit

/-- what stands in the world from round to round -/
structure SK (W : World) (x y : St) (w : World) : Prop where
  bl : Below W.heap.size W w
  obj : At w W.heap.size x
  ref : w.heap[W.heap.size + 1]? = some (.cells (refC y) 30)
theorem some_lt {w : World} {k : Nat} {o : Obj} (h : w.heap[k]? = some o) : k < w.heap.size := by
  rcases Nat.lt_or_ge k w.heap.size with h' | h'
  · exact h'
  · rw [Array.getElem?_eq_none h'] at h; cases h
theorem Ext.keep {w w' : World} {k : Nat} {o : Obj} (h : Ext w w') (hk : w.heap[k]? = some o) : w'.heap[k]? = some o := (Below.block h k (some_lt hk)).trans hk
theorem SK.ext {W w w' : World} {x y : St} (h : SK W x y w) (hE : Ext w w') : SK W x y w' :=
  ⟨h.bl.trans (Below.mono hE h.bl.size), hE.keep h.obj, hE.keep h.ref⟩
theorem SK.drew {W w : World} {x y : St} (h : SK W x y w) : SK W x y w.drew := ⟨h.bl.drew, h.obj, h.ref⟩
theorem SK.alloc {W w : World} {x y : St} (h : SK W x y w) (o : Obj) : SK W x y (w.alloc o) := h.ext (Below.alloc (Below.refl _ _) (Nat.le_refl _) o)
theorem new_at (w : World) (o : Obj) : (w.alloc o).heap[w.heap.size]? = some o := by
  show (w.heap.push o)[w.heap.size]? = _
  simp
theorem SK.far {W w : World} {x y : St} (h : SK W x y w) {p : Addr} (hp : W.heap.size + 1 < p.block) (u : Value) : SK W x y (w.setCell p u) :=
  ⟨h.bl.setCell (by omega) u, (Below.heap_setCell _ _ _ _ (by omega)).trans h.obj, (Below.heap_setCell _ _ _ _ (by omega)).trans h.ref⟩
theorem SK.near {W w : World} {x y : St} {C : Array Value} {B : Nat} (h : Below B W w ∧ At w B x ∧ w.heap[B + 1]? = some (.cells C 30)) (o : Nat) (u : Value) : Below B W (w.setCell ⟨B + 1, o, none⟩ u) ∧ At (w.setCell ⟨B + 1, o, none⟩ u) B x ∧ (w.setCell ⟨B + 1, o, none⟩ u).heap[B + 1]? = some (.cells (C.setIfInBounds o u) 30) :=
  ⟨h.1.setCell (by simp) u, (Below.heap_setCell _ _ _ _ (by simp)).trans h.2.1, set_at h.2.2 o u⟩
theorem SK.put {W w : World} {x y : St} (h : SK W x y w) (y' : St) : SK W x y' ((((((((((w.setCell ⟨W.heap.size + 1, 0, none⟩ (.int .i64 0)).setCell ⟨W.heap.size + 1, 1, none⟩ (.int .i64 y'.s1)).setCell ⟨W.heap.size + 1, 2, none⟩ (.int .i64 y'.s2)).setCell ⟨W.heap.size + 1, 3, none⟩ (.int .i64 y'.s3)).setCell ⟨W.heap.size + 1, 4, none⟩ (.int .i64 y'.s4)).setCell ⟨W.heap.size + 1, 5, none⟩ (.string ⟨#[]⟩)).setCell ⟨W.heap.size + 1, 6, none⟩ (.string y'.b1)).setCell ⟨W.heap.size + 1, 7, none⟩ (.string y'.b2)).setCell ⟨W.heap.size + 1, 8, none⟩ (.string y'.b3)).setCell ⟨W.heap.size + 1, 9, none⟩ (.string y'.b4)) := by
  have h0 : Below W.heap.size W w ∧ At w W.heap.size x ∧ w.heap[W.heap.size + 1]? = some (.cells (refC y) 30) := ⟨h.bl, h.obj, h.ref⟩
  have h1 := SK.near (y := y) h0 0 (.int .i64 0)
  have h2 := SK.near (y := y) h1 1 (.int .i64 y'.s1)
  have h3 := SK.near (y := y) h2 2 (.int .i64 y'.s2)
  have h4 := SK.near (y := y) h3 3 (.int .i64 y'.s3)
  have h5 := SK.near (y := y) h4 4 (.int .i64 y'.s4)
  have h6 := SK.near (y := y) h5 5 (.string ⟨#[]⟩)
  have h7 := SK.near (y := y) h6 6 (.string y'.b1)
  have h8 := SK.near (y := y) h7 7 (.string y'.b2)
  have h9 := SK.near (y := y) h8 8 (.string y'.b3)
  have h10 := SK.near (y := y) h9 9 (.string y'.b4)
  exact ⟨h10.1, h10.2.1, h10.2.2.trans (by simp [refC])⟩
/-- without the object -/
structure SR (W : World) (y : St) (w : World) : Prop where
  bl : Below W.heap.size W w
  ref : w.heap[W.heap.size + 1]? = some (.cells (refC y) 30)
theorem SK.sr {W w : World} {x y : St} (h : SK W x y w) : SR W y w := ⟨h.bl, h.ref⟩
theorem SR.only {W w w' : World} {y : St} (h : SR W y w) (ho : Only W.heap.size w w') : SR W y w' :=
  ⟨h.bl.trans (ho.below (Nat.le_refl _)), (ho.block _ (by omega)).trans h.ref⟩
theorem get_objB (g : Nat) (x : St) (c q : Int) (w : World) (hat : At w g x) : Calls Try.prog 11 #[.pointer (some ⟨g, 0, none⟩), .int .i64 c, .int .i64 q] w fun e w' => e = .returned (.tuple #[.string (x.got c q), .bool (x.has c q)]) ∧ w = w' := get_obj g x c q w hat
theorem get_refB (x : St) (c q : Int) (w : World) : Calls Try.prog 12 #[.agg #[.int .i64 0, .int .i64 x.s1, .int .i64 x.s2, .int .i64 x.s3, .int .i64 x.s4, .string ⟨#[]⟩, .string x.b1, .string x.b2, .string x.b3, .string x.b4], .int .i64 c, .int .i64 q] w fun e w' => e = .returned (.tuple #[.string (x.got c q), .bool (x.has c q)]) ∧ Below w.heap.size w w' := get_ref x c q w
theorem last_refB (x : St) (c : Int) (w : World) : Calls Try.prog 14 #[.agg #[.int .i64 0, .int .i64 x.s1, .int .i64 x.s2, .int .i64 x.s3, .int .i64 x.s4, .string ⟨#[]⟩, .string x.b1, .string x.b2, .string x.b3, .string x.b4], .int .i64 c] w fun e w' => e = .returned (.int .i64 (x.seq c)) ∧ Below w.heap.size w w' := last_ref x c w
theorem last_objB (g : Nat) (x : St) (c : Int) (w : World) (hat : At w g x) : Calls Try.prog 13 #[.pointer (some ⟨g, 0, none⟩), .int .i64 c] w fun e w' => e = .returned (.int .i64 (x.seq c)) ∧ Below w.heap.size w w' :=
  (last_obj g x c w hat).mono fun e w' ⟨h1, h2⟩ => ⟨h1, h2 ▸ Below.refl _ _⟩
/-- the three cells of a step, in whatever world -/
def StepCells (W : World) (b off k : Nat) (y : Stp) : Prop :=
  ∀ w, Below W.heap.size W w → w.cell? ⟨b, off + k * 3, none⟩ = some (.int .i64 y.c) ∧ w.cell? ⟨b, off + k * 3 + 1, none⟩ = some (.int .i64 y.q) ∧ w.cell? ⟨b, off + k * 3 + 2, none⟩ = some (.string y.b)
def RefCells (W : World) (y : St) (w : World) : Prop := ∀ o, w.cell? ⟨W.heap.size + 1, o, none⟩ = (refC y)[o]?
theorem refCells_lit {W w : World} {y : St} (h : w.heap[W.heap.size + 1]? = some (.cells (refC y) 30)) : ∀ o, w.cell? ⟨W.heap.size + 1, o, none⟩ = (#[.int .i64 0, .int .i64 y.s1, .int .i64 y.s2, .int .i64 y.s3, .int .i64 y.s4, .string ⟨#[]⟩, .string y.b1, .string y.b2, .string y.b3, .string y.b4] : Array Value)[o]? := fun o => cell_at h o
theorem refLit (y : St) : (#[.int .i64 0, .int .i64 y.s1, .int .i64 y.s2, .int .i64 y.s3, .int .i64 y.s4, .string ⟨#[]⟩, .string y.b1, .string y.b2, .string y.b3, .string y.b4] : Array Value) = refC y := rfl

set_option maxRecDepth 100000 in
set_option maxHeartbeats 2000000 in
theorem keeps_walk (A : Option Addr) (L : List Stp) (cap : Nat) (hlen : L.length ≤ maxLen) (hb : ∀ x ∈ L, x.b.size ≤ maxLen) (c q : Int) (w : World) (hs : StepsAt w A L) :
    Calls Try.prog 3 #[.slice A L.length cap, .int .i64 c, .int .i64 q] w fun e w' => e = .returned (.bool true) ∧ Below w.heap.size w w' := by
  have hlarge := large_any A L cap w hlen hs hb
  unfold maxLen at hlen hb
  have HL := Lib.hid hlarge
  have HS := Lib.hid hs
  have HB := Lib.hid hb
  clear hs hb hlarge
  go_enter Try.func3, Try.ntmps3
  go_wp2_with fail
  refine HL.out.mono ?_
  rintro e w1 ⟨b, rfl, rfl⟩
  cases b
  · go_wp2_with fail
    refine (new_any _).mono ?_
    rintro e w0 ⟨rfl, rfl⟩
    go_wp2_with fail
    go_loopw [9] (fun i wr => ∃ (k : Nat) (x : St), k ≤ L.length ∧ i = .int .i64 k ∧ SK w x x wr) (fun i _ => L.length - (intOf i).toNat)
    case atStart =>
      refine ⟨0, St.new, by omega, rfl, by go_grown, ?_, ?_⟩
      · show ((w.heap.push _).push _)[w.heap.size]? = _
        rw [Array.getElem?_push, if_neg (by simp), Array.getElem?_push, if_pos rfl]
      · show ((w.heap.push _).push _)[w.heap.size + 1]? = _
        rw [Array.getElem?_push, if_pos (by simp)]
        rfl
    case round =>
      obtain ⟨k, x, hk, rfl, hsk⟩ := hrel
      have HK := Lib.hid hsk
      clear hsk
      by_cases hlt : k < L.length
      · obtain ⟨b, off, rfl, hbw, c0, c1, c2⟩ := HS.out.at_ hlt
        generalize L[k] = y at *
        have hst : StepCells w b off k y := fun w' hb => ⟨(hb.cell (p := ⟨b, off + k * 3, none⟩) hbw).trans c0, (hb.cell (p := ⟨b, off + k * 3 + 1, none⟩) hbw).trans c1, (hb.cell (p := ⟨b, off + k * 3 + 2, none⟩) hbw).trans c2⟩
        have HT := Lib.hid hst
        clear c0 c1 c2 hst hbw
        obtain ⟨x', hx'⟩ : ∃ z, z = x.keep y.c y.q y.b := ⟨_, rfl⟩
        obtain ⟨r, hr'⟩ : ∃ z, z = x.may y.c y.q y.b := ⟨_, rfl⟩
        have hkr : ∀ w', Calls Try.prog 9 #[.agg #[.int .i64 0, .int .i64 x.s1, .int .i64 x.s2, .int .i64 x.s3, .int .i64 x.s4, .string ⟨#[]⟩, .string x.b1, .string x.b2, .string x.b3, .string x.b4], .int .i64 y.c, .int .i64 y.q, .string y.b] w' fun e w'' => e = .returned (.tuple #[.agg #[.int .i64 0, .int .i64 x'.s1, .int .i64 x'.s2, .int .i64 x'.s3, .int .i64 x'.s4, .string ⟨#[]⟩, .string x'.b1, .string x'.b2, .string x'.b3, .string x'.b4], .bool r]) ∧ Below w'.heap.size w' w'' := fun w' =>
          (keep_ref x y.c y.q y.b w').mono (by rintro e w'' ⟨he, hb⟩; exact ⟨by rw [he, ← hx', ← hr']; rfl, hb⟩)
        have hko : ∀ w', At w' w.heap.size x → Calls Try.prog 10 #[.pointer (some ⟨w.heap.size, 0, none⟩), .int .i64 y.c, .int .i64 y.q, .string y.b] w' fun e w'' => e = .returned (.bool r) ∧ Only w.heap.size w' w'' ∧ At w'' w.heap.size x' := fun w' hat =>
          (keep_obj w.heap.size x y.c y.q y.b w' hat).mono (by rintro e w'' ⟨he, ho, ha⟩; exact ⟨by rw [he, ← hr'], ho, by rw [hx']; exact ha⟩)
        have HKO := Lib.hid hko
        clear hko
        have HKR := Lib.hid hkr
        have HX := Lib.hid hx'
        have HR := Lib.hid hr'
        clear hkr hx' hr'
        go_wp2_with fail
        refine wp_region_flow2_lit [(0, false), (1, false), (2, false), (3, false), (4, false), (5, false), (6, false), (7, false), (8, false), (9, false), (10, false), (11, false), (12, false), (13, false), (14, false), (15, false), (16, false), (17, false), (18, false), (19, false), (20, true), (21, true), (22, false)] (SK w x x) (by kernel_rfl) (by kernel_rfl) (by kernel_rfl) HK.out.drew ?_
        repeat (first | (refine' flow2_pass (o := _) rfl _ _; (focus rfl); simp only [Act.put, List.setIfInBounds_toArray, List.set_cons_zero, List.set_cons_succ]) | (refine' flow2_take (v := _) (o := _) rfl _ _ _; rotate_left; (focus rfl); (focus (intro wS hS; have hE := Ext.refl wS; (have f0 := (HT.out wS hS.bl).1; have f1 := (HT.out wS hS.bl).2.1; have f2 := (HT.out wS hS.bl).2.2; have f3 := refCells_lit hS.ref); go_simp; try (with_reducible (first | exact ⟨rfl, hS, hE⟩ | rfl)); done)); simp only [Act.put, List.setIfInBounds_toArray, List.set_cons_zero, List.set_cons_succ]))
        (refine' flow2_take (v := _) (o := _) rfl _ _ _; rotate_left; (focus rfl); (focus (intro wS hS; go_simp; refine (HKR.out _).mono ?_; rintro e w' ⟨rfl, hb⟩; refine ⟨?_, hS.ext hb, hb⟩; rfl)); simp only [Act.put, List.setIfInBounds_toArray, List.set_cons_zero, List.set_cons_succ])
        repeat (first | (refine' flow2_pass (o := _) rfl _ _; (focus rfl); simp only [Act.put, List.setIfInBounds_toArray, List.set_cons_zero, List.set_cons_succ]) | (refine' flow2_take (v := _) (o := _) rfl _ _ _; rotate_left; (focus rfl); (focus (intro wS hS; have hE := Ext.refl wS; (have f0 := (HT.out wS hS.bl).1; have f1 := (HT.out wS hS.bl).2.1; have f2 := (HT.out wS hS.bl).2.2; have f3 := refCells_lit hS.ref); go_simp; try (with_reducible (first | exact ⟨rfl, hS, hE⟩ | rfl)); done)); simp only [Act.put, List.setIfInBounds_toArray, List.set_cons_zero, List.set_cons_succ]))
        (refine' flow2_turn (o := _) rfl _ _; (focus rfl); intro wT hE hS K hK; (skip); go_simp)
        refine hK _ _ (hS.alloc _) ?_
        have hnb := some_lt hS.ref
        clear hK hE hS K
        simp only [Act.put, List.setIfInBounds_toArray, List.set_cons_zero, List.set_cons_succ]
        (refine' flow2_turn (o := _) rfl _ _; (focus rfl); intro wT hE hS K hK; (have hn1 := hE.keep (new_at _ _); have hc1 := cell_at hn1; have hf1 := froz_at hn1); go_simp)
        clear hc1 hf1
        refine hK _ _ (by (repeat (refine SK.far ?_ hnb _)); exact hS) ?_
        clear hK hE hS K
        simp only [Act.put, List.setIfInBounds_toArray, List.set_cons_zero, List.set_cons_succ]
        repeat (first | (refine' flow2_pass (o := _) rfl _ _; (focus rfl); simp only [Act.put, List.setIfInBounds_toArray, List.set_cons_zero, List.set_cons_succ]) | (refine' flow2_take (v := _) (o := _) rfl _ _ _; rotate_left; (focus rfl); (focus (intro wS hS; have hE := Ext.refl wS; (skip); go_simp; try (with_reducible (first | exact ⟨rfl, hS, hE⟩ | rfl)); done)); simp only [Act.put, List.setIfInBounds_toArray, List.set_cons_zero, List.set_cons_succ]))
        refine flow2_nil ?_
        intro wA hE hS
        have hn3 := hE.keep (set_at (set_at (set_at (set_at (set_at (set_at (set_at (set_at (set_at (set_at hn1 _ _) _ _) _ _) _ _) _ _) _ _) _ _) _ _) _ _) _ _)
        have hc3 := cell_at (hn3.trans (b := some (Obj.cells _ 30)) (c := some (Obj.cells #[.int .i64 0, .int .i64 x'.s1, .int .i64 x'.s2, .int .i64 x'.s3, .int .i64 x'.s4, .string ⟨#[]⟩, .string x'.b1, .string x'.b2, .string x'.b3, .string x'.b4] 30)) (by simp))
        have hc4 := refCells_lit hS.ref
        have hf4 := froz_at hS.ref
        have hSA := Lib.hid hS
        clear hn1 hE hn3 hS hnb
        go_wp2_with fail
        clear hc3 hc4 hf4
        refine wp_region_flow2_lit [(0, false), (1, false), (2, false), (3, false), (4, false), (5, false), (6, false), (7, false), (8, false), (9, false), (10, false), (11, false), (12, false), (13, false), (14, false), (15, false), (17, false), (16, true), (18, false)] (SR w x') (by kernel_rfl) (by kernel_rfl) (by kernel_rfl) (hSA.out.put x').drew.sr ?_
        repeat (first | (refine' flow2_pass (o := _) rfl _ _; (focus rfl); simp only [Act.put, List.setIfInBounds_toArray, List.set_cons_zero, List.set_cons_succ]) | (refine' flow2_take (v := _) (o := _) rfl _ _ _; rotate_left; (focus rfl); (focus (intro wS hS; have hE := Ext.refl wS; (have f0 := (HT.out wS hS.bl).1; have f1 := (HT.out wS hS.bl).2.1; have f2 := (HT.out wS hS.bl).2.2); go_simp; try (with_reducible (first | exact ⟨rfl, hS, hE⟩ | rfl)); done)); simp only [Act.put, List.setIfInBounds_toArray, List.set_cons_zero, List.set_cons_succ]))
        (refine' flow2_turn (o := _) rfl _ _; (focus rfl); intro wT hE hS K hK; (have ho := hE.keep (hSA.out.put x').drew.obj); go_simp)
        refine (HKO.out wT ho).mono ?_
        rintro e w5 ⟨rfl, hon, hat⟩
        refine hK _ _ (hS.only hon) ?_
        clear hK hE hS K ho hon
        simp only [Act.put, List.setIfInBounds_toArray, List.set_cons_zero, List.set_cons_succ]
        repeat (first | (refine' flow2_pass (o := _) rfl _ _; (focus rfl); simp only [Act.put, List.setIfInBounds_toArray, List.set_cons_zero, List.set_cons_succ]) | (refine' flow2_take (v := _) (o := _) rfl _ _ _; rotate_left; (focus rfl); (focus (intro wS hS; have hE := Ext.refl wS; (skip); go_simp; try (with_reducible (first | exact ⟨rfl, hS, hE⟩ | rfl)); done)); simp only [Act.put, List.setIfInBounds_toArray, List.set_cons_zero, List.set_cons_succ]))
        refine flow2_nil ?_
        intro w6 hE hS
        have hS6 : SK w x' x' w6 := ⟨hS.bl, hE.keep hat, hS.ref⟩
        clear hSA hE hS hat
        go_wp2_with fail
        refine (get_objB w.heap.size x' c q w6 hS6.obj).mono ?_
        rintro e w7 ⟨rfl, rfl⟩
        have hc4 := refCells_lit hS6.ref
        have H6 := Lib.hid hS6
        clear hS6
        go_wp2_with fail
        clear hc4
        refine (get_refB x' c q w6).mono ?_
        rintro e w8 ⟨rfl, hb8⟩
        have hS8 := Lib.hid (H6.out.ext hb8)
        clear hb8
        go_wp2_with fail
        refine wp_region_flow2_lit [(0, false), (1, false), (2, false), (3, false), (4, false), (5, false), (6, false), (7, false), (8, false), (9, false), (10, false), (11, false), (12, false), (13, false), (14, false), (15, false), (16, false)] (SK w x' x') (by kernel_rfl) (by kernel_rfl) (by kernel_rfl) hS8.out.drew ?_
        repeat (first | (refine' flow2_pass (o := _) rfl _ _; (focus rfl); simp only [Act.put, List.setIfInBounds_toArray, List.set_cons_zero, List.set_cons_succ]) | (refine' flow2_take (v := _) (o := _) rfl _ _ _; rotate_left; (focus rfl); (focus (intro wS hS; have hE := Ext.refl wS; (have f3 := refCells_lit hS.ref); go_simp; try (with_reducible (first | exact ⟨rfl, hS, hE⟩ | rfl)); done)); simp only [Act.put, List.setIfInBounds_toArray, List.set_cons_zero, List.set_cons_succ]))
        (refine' flow2_take (v := _) (o := _) rfl _ _ _; rotate_left; (focus rfl); (focus (intro wS hS; go_simp; refine (last_objB w.heap.size x' c _ hS.obj).mono ?_; rintro e w' ⟨rfl, hb⟩; refine ⟨?_, hS.ext hb, hb⟩; rfl)); simp only [Act.put, List.setIfInBounds_toArray, List.set_cons_zero, List.set_cons_succ])
        repeat (first | (refine' flow2_pass (o := _) rfl _ _; (focus rfl); simp only [Act.put, List.setIfInBounds_toArray, List.set_cons_zero, List.set_cons_succ]) | (refine' flow2_take (v := _) (o := _) rfl _ _ _; rotate_left; (focus rfl); (focus (intro wS hS; have hE := Ext.refl wS; (have f3 := refCells_lit hS.ref); go_simp; try (with_reducible (first | exact ⟨rfl, hS, hE⟩ | rfl)); done)); simp only [Act.put, List.setIfInBounds_toArray, List.set_cons_zero, List.set_cons_succ]))
        (refine' flow2_take (v := _) (o := _) rfl _ _ _; rotate_left; (focus rfl); (focus (intro wS hS; go_simp; refine (last_refB x' c _).mono ?_; rintro e w' ⟨rfl, hb⟩; refine ⟨?_, hS.ext hb, hb⟩; rfl)); simp only [Act.put, List.setIfInBounds_toArray, List.set_cons_zero, List.set_cons_succ])
        repeat (first | (refine' flow2_pass (o := _) rfl _ _; (focus rfl); simp only [Act.put, List.setIfInBounds_toArray, List.set_cons_zero, List.set_cons_succ]) | (refine' flow2_take (v := _) (o := _) rfl _ _ _; rotate_left; (focus rfl); (focus (intro wS hS; have hE := Ext.refl wS; (have f3 := refCells_lit hS.ref); go_simp; try (with_reducible (first | exact ⟨rfl, hS, hE⟩ | rfl)); done)); simp only [Act.put, List.setIfInBounds_toArray, List.set_cons_zero, List.set_cons_succ]))
        refine flow2_nil ?_
        intro w9 hE hS
        have H9 := Lib.hid hS
        clear hE hS
        go_wp2_with fail
        go_roundw
        case rel => exact ⟨k + 1, x', by omega, by go_num, H9.out⟩
        case measure => simp [intOf]; omega
      · go_wp2_with fail
        refine (known_any _).mono ?_
        rintro e w4 ⟨rfl, hb4⟩
        go_wp2_with fail
        go_ret
        exact ⟨rfl, HK.out.bl.trans (hb4.mono HK.out.bl.size)⟩
  · go_wp2_with fail
    refine (known_any _).mono ?_
    rintro e w4 ⟨rfl, hb4⟩
    go_wp2_with fail
    go_ret
    exact ⟨rfl, hb4⟩
end Go.Proofs.Ytigdpmbhflojcaa
