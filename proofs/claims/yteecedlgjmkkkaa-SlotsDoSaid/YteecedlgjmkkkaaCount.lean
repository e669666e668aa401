/- slots.Slots: Count; what stays over other calls. -/
import Derived.Test.YteecedlgjmkkkaaNil
import Derived.Test.YteecedlgjmkkkaaFlow
namespace Go.Proofs.Yteecedlgjmkkkaa
open Go Go.RowKit

theorem some_lt {w : World} {k : Nat} {o : Obj} (h : w.heap[k]? = some o) : k < w.heap.size := by
  rcases Nat.lt_or_ge k w.heap.size with h' | h'
  · exact h'
  · rw [Array.getElem?_eq_none h'] at h; cases h
theorem Below.keep {B k : Nat} {w w' : World} {o : Obj} (hb : Below B w w') (hB : B = w.heap.size) (h : w.heap[k]? = some o) : w'.heap[k]? = some o := (hb.block k (by rw [hB]; exact some_lt h)).trans h
theorem At.below {w w' : World} {g r : Nat} {l : List Nat} (h : At w g r l) (hb : Below w.heap.size w w') : At w' g r l := ⟨Below.keep hb rfl h.obj, Below.keep hb rfl h.row, h.ne, h.few⟩
theorem At.drewN {w : World} {g r : Nat} {l : List Nat} (h : At w g r l) (n : Nat) : At (w.drewN n) g r l := ⟨by simpa using h.obj, by simpa using h.row, h.ne, h.few⟩

theorem bcell {B : Nat} {W w1 : World} (hb : Below B W w1) : (∀ b o, b < B → w1.cell? ⟨b, o, none⟩ = W.cell? ⟨b, o, none⟩) ∧ (∀ b o, b < B → w1.frozen? ⟨b, o, none⟩ = W.frozen? ⟨b, o, none⟩) :=
  ⟨fun b o h => hb.cell (p := ⟨b, o, none⟩) h, fun b o h => hb.frozen (p := ⟨b, o, none⟩) h⟩
theorem load_bel (g o : Nat) (x : Int) (w : World) (hc : w.cell? ⟨g, o, none⟩ = some (.int .i64 x)) :
    Calls Try.prog 21 #[.pointer (some ⟨g, o, none⟩)] w fun e w' => e = .returned (.int .i64 x) ∧ Below w.heap.size w w' :=
  (load_any g o x w hc).mono fun _ _ ⟨h1, h2⟩ => ⟨h1, h2 ▸ Below.refl _ _⟩

set_option maxHeartbeats 1000000 in
theorem count_any (g r : Nat) (l : List Nat) (w : World) (hat : At w g r l) :
    Calls Try.prog 13 #[.pointer (some ⟨g, 0, none⟩)] w fun e w' => e = .returned (.tuple #[.int .i64 (l.count 0 : Nat), .int .i64 (l.count 1 : Nat), .int .i64 (l.count 2 : Nat)]) ∧ Below w.heap.size w w' := by
  have k1 := count_few l 0
  have k2 := count_few l 1
  have k3 := count_few l 2
  have hfew := hat.few
  have HAT := Lib.hid hat
  clear hat
  go_enter Try.func13, Try.ntmps13
  go_wp2_with fail
  refine wp_region_flow_lit (fun w' => Below w.heap.size w w') (by kernel_rfl) (by kernel_rfl) (by go_grown) ?_
  repeat (first | (refine flow_pass ?_ ?_; (focus rfl); simp only [Act.put, List.setIfInBounds_toArray, List.set_cons_zero, List.set_cons_succ]) | (refine' flow_take (v := _) _ _ _; rotate_left; (focus rfl); (focus (intro wS hS; obtain ⟨hc, -⟩ := bcell hS; go_simp; try (with_reducible (first | exact ⟨rfl, hS⟩ | rfl)); done)); simp only [Act.put, List.setIfInBounds_toArray, List.set_cons_zero, List.set_cons_succ]))
  (refine' flow_take (v := _) _ _ _; rotate_left; (focus rfl); (focus (intro wS hS; go_simp; refine (load_bel g 1 _ _ (by rw [cell_at (HAT.out.below hS).obj]; rfl)).mono ?_; rintro e w' ⟨rfl, hb⟩; refine ⟨?_, hS.trans (hb.mono (Nat.le_trans (by simp) hS.size))⟩; rfl)); simp only [Act.put, List.setIfInBounds_toArray, List.set_cons_zero, List.set_cons_succ])
  repeat (first | (refine flow_pass ?_ ?_; (focus rfl); simp only [Act.put, List.setIfInBounds_toArray, List.set_cons_zero, List.set_cons_succ]) | (refine' flow_take (v := _) _ _ _; rotate_left; (focus rfl); (focus (intro wS hS; obtain ⟨hc, -⟩ := bcell hS; go_simp; try (with_reducible (first | exact ⟨rfl, hS⟩ | rfl)); done)); simp only [Act.put, List.setIfInBounds_toArray, List.set_cons_zero, List.set_cons_succ]))
  (refine' flow_take (v := _) _ _ _; rotate_left; (focus rfl); (focus (intro wS hS; go_simp; refine (load_bel g 2 _ _ (by rw [cell_at (HAT.out.below hS).obj]; rfl)).mono ?_; rintro e w' ⟨rfl, hb⟩; refine ⟨?_, hS.trans (hb.mono (Nat.le_trans (by simp) hS.size))⟩; rfl)); simp only [Act.put, List.setIfInBounds_toArray, List.set_cons_zero, List.set_cons_succ])
  repeat (first | (refine flow_pass ?_ ?_; (focus rfl); simp only [Act.put, List.setIfInBounds_toArray, List.set_cons_zero, List.set_cons_succ]) | (refine' flow_take (v := _) _ _ _; rotate_left; (focus rfl); (focus (intro wS hS; obtain ⟨hc, -⟩ := bcell hS; go_simp; try (with_reducible (first | exact ⟨rfl, hS⟩ | rfl)); done)); simp only [Act.put, List.setIfInBounds_toArray, List.set_cons_zero, List.set_cons_succ]))
  (refine' flow_take (v := _) _ _ _; rotate_left; (focus rfl); (focus (intro wS hS; go_simp; refine (load_bel g 3 _ _ (by rw [cell_at (HAT.out.below hS).obj]; rfl)).mono ?_; rintro e w' ⟨rfl, hb⟩; refine ⟨?_, hS.trans (hb.mono (Nat.le_trans (by simp) hS.size))⟩; rfl)); simp only [Act.put, List.setIfInBounds_toArray, List.set_cons_zero, List.set_cons_succ])
  repeat (first | (refine flow_pass ?_ ?_; (focus rfl); simp only [Act.put, List.setIfInBounds_toArray, List.set_cons_zero, List.set_cons_succ]) | (refine' flow_take (v := _) _ _ _; rotate_left; (focus rfl); (focus (intro wS hS; obtain ⟨hc, -⟩ := bcell hS; go_simp; try (with_reducible (first | exact ⟨rfl, hS⟩ | rfl)); done)); simp only [Act.put, List.setIfInBounds_toArray, List.set_cons_zero, List.set_cons_succ]))
  refine flow_nil ?_
  intro w1 hS
  go_wp2_with fail
  go_ret3
  exact ⟨rfl, hS⟩
end Go.Proofs.Yteecedlgjmkkkaa
