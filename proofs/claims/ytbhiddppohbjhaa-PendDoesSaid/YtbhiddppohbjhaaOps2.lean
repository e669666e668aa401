/- pend.Table: Put, Came, Drop, Later, Len. -/
import Derived.Test.YtbhiddppohbjhaaLaw
import Derived.Test.YtbhiddppohbjhaaFlow2
namespace Go.Proofs.Ytbhiddppohbjhaa
open Go Go.RowKit Go.Maps Go.WideShapes Go.ChangeMaps Go.WideMaps Go.MapKept
set_option maxRecDepth 100000
def DidT (B g mb : Nat) (r : Tb × Bool) (w : World) (e : Ending) (w' : World) : Prop := e = .returned (.bool r.2) ∧ PA w' B g mb r.1 ∧ w.grownBy w' (some mb)
theorem grown_of {w w' : World} (h : Below w.heap.size w w') (r : Option Nat) : w.grownBy w' r := ⟨h.os, h.tape, h.output, h.size, fun q hq _ => h.block q hq⟩
/-- a whole call loaded, in a region walked by flow2 -/
theorem gives_load {K : World → Prop} {a : Act} {o : Oper} {x : Operand} (ho : o.op = .load 37 x) {w : World} {b : Nat} (hx : a.eval x = .pointer (some ⟨b, 0, none⟩)) {p : Pd} (hp : p.ok) (hb : w.heap[b]? = some (.cells p.arr 37)) (hK : K w) :
    givesR Try.prog K (.agg p.arr) ((execOp a.eval o).run Try.prog w) := by
  unfold execOp
  simp only [ho, hx, Instr.loadAt, Instr.sureAddr, Sem.run_bind, Sem.run_pure, Result.andThen_ok, load_row hp hb]
  exact ⟨rfl, hK⟩
/-- what the last region of Put, Came, Later looks at -/
def SB (g mb bx : Nat) (p : Pd) (w : World) : Prop := w.heap[g]? = some (.cells #[.map (some mb)] 60) ∧ w.heap[bx]? = some (.cells p.arr 37)
theorem SB.cell {g mb bx : Nat} {p : Pd} {w : World} (h : SB g mb bx p w) : w.cell? ⟨g, 0, none⟩ = some (.map (some mb)) := by rw [row_cell h.1]; rfl
theorem SB.turn {g mb bx : Nat} {p : Pd} {w w' : World} (h : SB g mb bx p w) (hm : g ≠ mb) (hb : bx ≠ mb) (hg : w.grownBy w' (some mb)) : SB g mb bx p w' :=
  ⟨(hg.block g (heap_lt h.1) (by simpa using hm)).trans h.1, (hg.block bx (heap_lt h.2) (by simpa using hb)).trans h.2⟩
theorem put_fin {w W7 wT w8 w9 : World} {B g mb : Nat} {M M' : Tb} (hp7 : PA W7 B g mb M) (hb7 : Below w.heap.size w W7) (hE : Ext W7 wT) (hm : MapP w8 mb M') (ht : wT.mapTurned w8 mb) (hE9 : Ext w8 w9) (hok : Tok M') : PA w9 B g mb M' ∧ w.grownBy w9 (some mb) :=
  ⟨((hp7.below hE).turn hm ht.grown hok).below hE9, (((grown_of hb7 (some mb)).andThen' (grown_of hE _)).andThen' ht.grown).andThen' (grown_of hE9 _)⟩
section
variable {w : World} {B g mb : Nat} {M : Tb}
theorem len_any (h : PA w B g mb M) : Calls Try.prog 11 #[.pointer (some ⟨g, 0, none⟩)] w fun e w' => e = .returned (.int .i64 (cnt M)) ∧ w = w' := by
  have H1 := Lib.hid (made_yes h)
  have c0 := h.cc
  have hl := h.map.len
  clear h
  go_enter Try.func11, Try.ntmps11
  go_wp2_with fail
  refine H1.out.mono ?_
  rintro e w1 ⟨rfl, rfl⟩
  go_wp2_with fail
  go_ret
  exact ⟨rfl, rfl⟩
theorem len_nil (w : World) : Calls Try.prog 11 #[.pointer none] w fun e w' => e = .returned (.int .i64 0) ∧ w = w' := by
  have H1 := Lib.hid made_nil
  go_enter Try.func11, Try.ntmps11
  go_wp2_with fail
  refine (H1.out _).mono ?_
  rintro e w1 ⟨rfl, rfl⟩
  go_wp2_with fail
  go_ret
  exact ⟨rfl, rfl⟩
set_option maxHeartbeats 8000000 in
theorem put_yes (h : PA w B g mb M) (hB : B ≤ w.heap.size) {p : Pd} (hp : p.ok) (hc : canPut M p) : Calls Try.prog 21 #[.pointer (some ⟨g, 0, none⟩), .agg p.arr] w (DidT B g mb (upd M p.cl (some p), true) w) := by
  have hb1 : Below w.heap.size w (w.alloc (.cells p.arr 37)) := by go_grown
  have h1 := h.below hb1
  have H1 := Lib.hid (made_yes h1)
  have H2 := Lib.hid (by_any h1 p.up)
  have hvok : (vOf (byK M p.up)).ok := by
    cases hb : byK M p.up with
    | none => exact zP_ok
    | some o =>
      obtain ⟨k, _, _, hk, _⟩ := by_some hb
      exact h.ok.ok k o hk
  have hvc : (byK M p.up).isSome = true → (vOf (byK M p.up)).cl = p.cl := fun hs => by
    cases hb : byK M p.up with
    | none => rw [hb] at hs; cases hs
    | some o => exact hc.2 o hb
  have hpo := putM_ok h.ok hp
  unfold putM at hpo
  rw [if_pos hc] at hpo
  have HPO := Lib.hid hpo
  have HGM := Lib.hid (And.intro h.gm (show w.heap.size ≠ mb by have := h.map.lt; omega))
  clear hpo
  have a0 : p.arr[0]? = some (.int .i64 p.cl) := rfl
  have a7 : p.arr[7]? = some (.int .i64 p.up) := rfl
  obtain ⟨⟨hc1, hc4⟩, _⟩ := hc
  have i1 : ¬ p.cl < 1 := by omega
  have i2 : ¬ 4 < p.cl := by omega
  have HH := Lib.hid h1
  have HB1 := Lib.hid hb1
  have HW := Lib.hid h
  have HOK := Lib.hid hp
  clear h h1 hb1 hp
  go_enter Try.func21, Try.ntmps21
  go_wp2_with fail
  refine H1.out.mono ?_
  rintro e w1 ⟨rfl, rfl⟩
  go_wp2_with fail
  refine H2.out.mono ?_
  rintro e w2 ⟨rfl, hb2⟩
  generalize vOf (byK M p.up) = q at *
  generalize (byK M p.up).isSome = b at *
  have q0 : q.arr[0]? = some (.int .i64 q.cl) := rfl
  have HB2 := Lib.hid hb2
  clear hb2
  cases b with
  | false =>
    go_wp2_with (first | (refine pw_put _ 6 (.tmp 27) rfl rfl rfl rfl rfl rfl q hvok rfl rfl ?_))
    have hb7 : Below (w.alloc (.cells p.arr 37)).heap.size (w.alloc (.cells p.arr 37)) (w2.alloc (.cells q.arr 37)).drew := HB2.out.trans ((show Below w2.heap.size w2 (w2.alloc (.cells q.arr 37)).drew by go_grown).mono HB2.out.size)
    have hp7 := HH.out.below hb7
    have hS7 : SB g mb w.heap.size p (w2.alloc (.cells q.arr 37)).drew := ⟨hp7.obj, (hb7.block _ (by rw [alloc_size]; omega)).trans (heap_alloc_new w _)⟩
    have HF := Lib.hid (And.intro hp7 (HB1.out.trans (hb7.mono (by rw [alloc_size]; omega))))
    clear hp7 hb7
    refine wp_region_flow2_lit [(0, false), (1, false), (2, false), (3, false), (4, false), (5, false), (6, true)] (SB g mb w.heap.size p) (by kernel_rfl) (by kernel_rfl) (by kernel_rfl) hS7 ?_
    repeat (first | (refine' flow2_pass (o := _) rfl _ _; (focus rfl); simp only [Act.put, List.setIfInBounds_toArray, List.set_cons_zero, List.set_cons_succ]) | (refine' flow2_take (v := _) (o := _) rfl _ _ _; rotate_left; (focus rfl); (focus (intro wS hS; have hE := Ext.refl wS; (have c0 := hS.cell); go_simp; try (with_reducible (first | exact ⟨rfl, hS, hE⟩ | rfl)); done)); simp only [Act.put, List.setIfInBounds_toArray, List.set_cons_zero, List.set_cons_succ]))
    (refine flow2_take (v := .agg p.arr) (o := _) rfl rfl (fun wS hS => gives_load rfl rfl HOK.out (hS.2) ⟨hS, Ext.refl wS⟩) ?_; simp only [Act.put, List.setIfInBounds_toArray, List.set_cons_zero, List.set_cons_succ])
    (refine' flow2_turn (o := _) rfl _ _; (focus rfl); intro wT hE hS K hK; (obtain ⟨w8, hrun, hmap, hturn⟩ := (HF.out.1.below hE).map.put ⟨hc1, hc4⟩ p); go_simp)
    refine hK _ _ (hS.turn HGM.out.1 HGM.out.2 hturn.grown) ?_
    clear hK K
    have HX := Lib.hid (And.intro hE (And.intro hmap hturn))
    clear hE hS hmap hturn hrun
    simp only [Act.put, List.setIfInBounds_toArray, List.set_cons_zero, List.set_cons_succ]
    refine flow2_nil ?_
    intro w9 hE9 hS9
    have HX9 := Lib.hid hE9
    clear hE9 hS9
    go_wp2_with fail
    go_ret
    exact ⟨rfl, put_fin HF.out.1 HF.out.2 HX.out.1 HX.out.2.1 HX.out.2.2 HX9.out HPO.out⟩
  | true =>
    have hqc := hvc rfl
    have e0 : (q.cl != p.cl) = false := by simp [hqc]
    clear hqc
    go_wp2_with (first | (refine pw_put _ 6 (.tmp 27) rfl rfl rfl rfl rfl rfl q hvok rfl rfl ?_))
    have hb7 : Below (w.alloc (.cells p.arr 37)).heap.size (w.alloc (.cells p.arr 37)) (w2.alloc (.cells q.arr 37)).drew := HB2.out.trans ((show Below w2.heap.size w2 (w2.alloc (.cells q.arr 37)).drew by go_grown).mono HB2.out.size)
    have hp7 := HH.out.below hb7
    have hS7 : SB g mb w.heap.size p (w2.alloc (.cells q.arr 37)).drew := ⟨hp7.obj, (hb7.block _ (by rw [alloc_size]; omega)).trans (heap_alloc_new w _)⟩
    have HF := Lib.hid (And.intro hp7 (HB1.out.trans (hb7.mono (by rw [alloc_size]; omega))))
    clear hp7 hb7
    refine wp_region_flow2_lit [(0, false), (1, false), (2, false), (3, false), (4, false), (5, false), (6, true)] (SB g mb w.heap.size p) (by kernel_rfl) (by kernel_rfl) (by kernel_rfl) hS7 ?_
    repeat (first | (refine' flow2_pass (o := _) rfl _ _; (focus rfl); simp only [Act.put, List.setIfInBounds_toArray, List.set_cons_zero, List.set_cons_succ]) | (refine' flow2_take (v := _) (o := _) rfl _ _ _; rotate_left; (focus rfl); (focus (intro wS hS; have hE := Ext.refl wS; (have c0 := hS.cell); go_simp; try (with_reducible (first | exact ⟨rfl, hS, hE⟩ | rfl)); done)); simp only [Act.put, List.setIfInBounds_toArray, List.set_cons_zero, List.set_cons_succ]))
    (refine flow2_take (v := .agg p.arr) (o := _) rfl rfl (fun wS hS => gives_load rfl rfl HOK.out (hS.2) ⟨hS, Ext.refl wS⟩) ?_; simp only [Act.put, List.setIfInBounds_toArray, List.set_cons_zero, List.set_cons_succ])
    (refine' flow2_turn (o := _) rfl _ _; (focus rfl); intro wT hE hS K hK; (obtain ⟨w8, hrun, hmap, hturn⟩ := (HF.out.1.below hE).map.put ⟨hc1, hc4⟩ p); go_simp)
    refine hK _ _ (hS.turn HGM.out.1 HGM.out.2 hturn.grown) ?_
    clear hK K
    have HX := Lib.hid (And.intro hE (And.intro hmap hturn))
    clear hE hS hmap hturn hrun
    simp only [Act.put, List.setIfInBounds_toArray, List.set_cons_zero, List.set_cons_succ]
    refine flow2_nil ?_
    intro w9 hE9 hS9
    have HX9 := Lib.hid hE9
    clear hE9 hS9
    go_wp2_with fail
    go_ret
    exact ⟨rfl, put_fin HF.out.1 HF.out.2 HX.out.1 HX.out.2.1 HX.out.2.2 HX9.out HPO.out⟩
end
end Go.Proofs.Ytbhiddppohbjhaa
