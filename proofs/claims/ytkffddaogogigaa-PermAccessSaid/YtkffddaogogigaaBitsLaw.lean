/- PermBits: the reference's functions, and the walk of the law. -/
import Derived.Test.YtkffddaogogigaaBase
import Derived.Test.YtkffddaogogigaaBits
import Derived.Test.YtkffddaogogigaaFlow
import Derived.Test.YtkffddaogogigaaProg
import Derived.ProofKit
import Derived.Handy
import Derived.Deep.RegionHeld3
namespace Go.Proofs.Ytkffddaogogigaa
open Go.RowKit

theorem refbits_any (a0 a1 a2 a3 a4 a5 a6 a7 a8 a9 c0 c1 c2 c3 : Int) (w : World) :
    Calls Try.prog 11 #[.agg #[.int .i64 a0, .int .i64 a1, .int .i64 a2, .int .i64 a3, .int .i64 a4, .int .i64 a5, .int .i64 a6, .int .i64 a7, .int .i64 a8, .int .i64 a9], .agg #[.int .i64 c0, .int .i64 c1, .int .i64 c2, .int .i64 c3]] w
      fun e w' => e = .returned (.int .i64 (bitsF a1 a3 a4 c2 c3)) ∧ Below w.heap.size w w' := by
  go_enter Try.func11, Try.ntmps11
  go_wp2
  all_goals go_ret
  all_goals refine ⟨?_, by go_grown⟩
  all_goals refine ret_int ?_
  · exact bitsF_1 ‹_›
  · exact bitsF_2 ‹_› ‹_›
  · exact bitsF_3 ‹_› ‹_› ‹_›
  · exact bitsF_4 ‹_› ‹_› ‹_›

theorem owns_any (a0 a1 a2 a3 a4 a5 a6 a7 a8 a9 c0 c1 c2 c3 : Int) (w : World) :
    Calls Try.prog 13 #[.agg #[.int .i64 a0, .int .i64 a1, .int .i64 a2, .int .i64 a3, .int .i64 a4, .int .i64 a5, .int .i64 a6, .int .i64 a7, .int .i64 a8, .int .i64 a9], .agg #[.int .i64 c0, .int .i64 c1, .int .i64 c2, .int .i64 c3]] w
      fun e w' => e = .returned (.bool (c2 == 0 || c2 == a3)) ∧ Below w.heap.size w w' := by
  by_cases h : (c2 == 0) = true
  · go_enter Try.func13, Try.ntmps13
    go_wp2
    all_goals go_ret
    all_goals exact ⟨ret_bool (by simp [h]), by go_grown⟩
  · have h : (c2 == 0) = false := by simpa using h
    go_enter Try.func13, Try.ntmps13
    go_wp2
    all_goals go_ret
    all_goals exact ⟨ret_bool (by simp [h]), by go_grown⟩

/-- the reference's May: bit by bit -/
def stepsB (want b : Int) : List Int → Bool
  | [] => true
  | k :: l => if bits .and .i64 want k ≠ 0 ∧ bits .and .i64 b k = 0 then false else stepsB want b l

theorem refmay_any (a0 a1 a2 a3 a4 a5 a6 a7 a8 a9 c0 c1 c2 c3 want : Int) (w : World) :
    Calls Try.prog 12 #[.agg #[.int .i64 a0, .int .i64 a1, .int .i64 a2, .int .i64 a3, .int .i64 a4, .int .i64 a5, .int .i64 a6, .int .i64 a7, .int .i64 a8, .int .i64 a9], .agg #[.int .i64 c0, .int .i64 c1, .int .i64 c2, .int .i64 c3], .int .i64 want] w
      fun e w' => e = .returned (.bool (stepsB want (bitsF a1 a3 a4 c2 c3) [1, 2, 4])) ∧ Below w.heap.size w w' := by
  generalize hB : bitsF a1 a3 a4 c2 c3 = B
  go_enter Try.func12, Try.ntmps12
  go_wp2_with fail
  refine (refbits_any a0 a1 a2 a3 a4 a5 a6 a7 a8 a9 c0 c1 c2 c3 _).mono ?_
  rw [hB]
  rintro e w' ⟨rfl, hb⟩
  replace hb : Below w.heap.size w w' := Below.trans (by go_grown) (hb.mono (by simp; omega))
  clear hB
  go_wp2_with fail
  go_rounds 4
  all_goals go_ret
  all_goals refine ⟨ret_bool ?_, hb⟩
  all_goals simp_all [stepsB]

/-- Bit by bit or all at one time. -/
theorem steps_tab : ∀ w : Fin 8, ∀ b : Fin 8, stepsB (w.val : Int) (b.val : Int) [1, 2, 4] = ((w.val &&& b.val) == w.val) := by decide +kernel
theorem and_low (x k : Int) (h : k = 1 ∨ k = 2 ∨ k = 4) : bits .and .i64 x k = bits .and .i64 (x % 8) k := by
  have hx := mask_mod x 7 3 rfl (by decide)
  have e : BitVec.ofInt 64 (x % 8) = BitVec.ofInt 64 x &&& BitVec.ofInt 64 7 := by
    apply BitVec.eq_of_toNat_eq
    have : (BitVec.ofInt 64 x &&& BitVec.ofInt 64 7).toNat = (x % 8).toNat := hx
    rw [this, BitVec.toNat_ofInt]
    omega
  simp only [bits_and_i64, e]
  congr 1
  rw [BitVec.and_assoc]
  congr 1
  rcases h with rfl | rfl | rfl <;> decide
theorem steps_low (x b : Int) : stepsB x b [1, 2, 4] = stepsB (x % 8) b [1, 2, 4] := by
  simp only [stepsB, and_low x 1 (by simp), and_low x 2 (by simp), and_low x 4 (by simp)]
theorem may_steps (want b : Int) (h0 : 0 ≤ b) (h1 : b ≤ 7) : stepsB want b [1, 2, 4] = mayB want b := by
  rw [mayB_eq _ _ h0 h1, steps_low]
  have := steps_tab ⟨(want % 8).toNat, by omega⟩ ⟨b.toNat, by omega⟩
  have e1 : (((want % 8).toNat : Nat) : Int) = want % 8 := by omega
  have e2 : ((b.toNat : Nat) : Int) = b := by omega
  simp only [e1, e2] at this
  exact this

def W2 (w : World) (a0 a1 a2 a3 a4 a5 a6 a7 a8 a9 c0 c1 c2 c3 : Int) : World := (w.alloc (.cells #[.int .i64 a0, .int .i64 a1, .int .i64 a2, .int .i64 a3, .int .i64 a4, .int .i64 a5, .int .i64 a6, .int .i64 a7, .int .i64 a8, .int .i64 a9] 23)).alloc (.cells #[.int .i64 c0, .int .i64 c1, .int .i64 c2, .int .i64 c3] 25)

set_option maxHeartbeats 1000000 in
theorem bits_walk (a0 a1 a2 a3 a4 a5 a6 a7 a8 a9 c0 c1 c2 c3 want : Int) (w : World) :
    Calls Try.prog 4 #[.agg #[.int .i64 a0, .int .i64 a1, .int .i64 a2, .int .i64 a3, .int .i64 a4, .int .i64 a5, .int .i64 a6, .int .i64 a7, .int .i64 a8, .int .i64 a9], .agg #[.int .i64 c0, .int .i64 c1, .int .i64 c2, .int .i64 c3], .int .i64 want] w
      fun e w' => e = .returned (.bool true) ∧ Below w.heap.size w w' := by
  obtain ⟨h0, h1⟩ := bitsF_range a1 a3 a4 c2 c3
  have hm := may_steps want _ h0 h1
  go_enter Try.func4, Try.ntmps4
  go_wp2_with fail
  refine wp_region_flow_lit (fun w' => Below (w.heap.size + 2) ((w.alloc (.cells #[.int .i64 a0, .int .i64 a1, .int .i64 a2, .int .i64 a3, .int .i64 a4, .int .i64 a5, .int .i64 a6, .int .i64 a7, .int .i64 a8, .int .i64 a9] 23)).alloc (.cells #[.int .i64 c0, .int .i64 c1, .int .i64 c2, .int .i64 c3] 25)) w') (by kernel_rfl) (by kernel_rfl) (by go_grown) ?_
  repeat (first | (refine flow_pass ?_ ?_; (focus rfl); simp only [Act.put, List.setIfInBounds_toArray, List.set_cons_zero, List.set_cons_succ]) | (refine' flow_take (v := _) _ _ _; rotate_left; (focus rfl); (focus (intro wS hS; obtain ⟨hc, -⟩ := bcell hS; go_simp; try (first | exact ⟨rfl, hS⟩ | rfl))); simp only [Act.put, List.setIfInBounds_toArray, List.set_cons_zero, List.set_cons_succ]))
  (refine' flow_take (v := _) _ _ _; rotate_left; (focus rfl); (focus (intro wS hS; go_simp; refine (bits_any a0 a1 a2 a3 a4 a5 a6 a7 a8 a9 c0 c1 c2 c3 _).mono ?_; rintro e w' ⟨rfl, hb⟩; refine ⟨?_, hS.trans (hb.mono (Nat.le_trans (by simp) hS.size))⟩; rfl)); simp only [Act.put, List.setIfInBounds_toArray, List.set_cons_zero, List.set_cons_succ])
  repeat (first | (refine flow_pass ?_ ?_; (focus rfl); simp only [Act.put, List.setIfInBounds_toArray, List.set_cons_zero, List.set_cons_succ]) | (refine' flow_take (v := _) _ _ _; rotate_left; (focus rfl); (focus (intro wS hS; obtain ⟨hc, -⟩ := bcell hS; go_simp; try (first | exact ⟨rfl, hS⟩ | rfl))); simp only [Act.put, List.setIfInBounds_toArray, List.set_cons_zero, List.set_cons_succ]))
  (refine' flow_take (v := _) _ _ _; rotate_left; (focus rfl); (focus (intro wS hS; go_simp; refine (refbits_any a0 a1 a2 a3 a4 a5 a6 a7 a8 a9 c0 c1 c2 c3 _).mono ?_; rintro e w' ⟨rfl, hb⟩; refine ⟨?_, hS.trans (hb.mono (Nat.le_trans (by simp) hS.size))⟩; rfl)); simp only [Act.put, List.setIfInBounds_toArray, List.set_cons_zero, List.set_cons_succ])
  repeat (first | (refine flow_pass ?_ ?_; (focus rfl); simp only [Act.put, List.setIfInBounds_toArray, List.set_cons_zero, List.set_cons_succ]) | (refine' flow_take (v := _) _ _ _; rotate_left; (focus rfl); (focus (intro wS hS; obtain ⟨hc, -⟩ := bcell hS; go_simp; try (first | exact ⟨rfl, hS⟩ | rfl))); simp only [Act.put, List.setIfInBounds_toArray, List.set_cons_zero, List.set_cons_succ]))
  (refine' flow_take (v := _) _ _ _; rotate_left; (focus rfl); (focus (intro wS hS; go_simp; refine (may_any a0 a1 a2 a3 a4 a5 a6 a7 a8 a9 c0 c1 c2 c3 want _).mono ?_; rintro e w' ⟨rfl, hb⟩; refine ⟨?_, hS.trans (hb.mono (Nat.le_trans (by simp) hS.size))⟩; rfl)); simp only [Act.put, List.setIfInBounds_toArray, List.set_cons_zero, List.set_cons_succ])
  repeat (first | (refine flow_pass ?_ ?_; (focus rfl); simp only [Act.put, List.setIfInBounds_toArray, List.set_cons_zero, List.set_cons_succ]) | (refine' flow_take (v := _) _ _ _; rotate_left; (focus rfl); (focus (intro wS hS; obtain ⟨hc, -⟩ := bcell hS; go_simp; try (first | exact ⟨rfl, hS⟩ | rfl))); simp only [Act.put, List.setIfInBounds_toArray, List.set_cons_zero, List.set_cons_succ]))
  (refine' flow_take (v := _) _ _ _; rotate_left; (focus rfl); (focus (intro wS hS; go_simp; refine (refmay_any a0 a1 a2 a3 a4 a5 a6 a7 a8 a9 c0 c1 c2 c3 want _).mono ?_; rintro e w' ⟨rfl, hb⟩; refine ⟨?_, hS.trans (hb.mono (Nat.le_trans (by simp) hS.size))⟩; rfl)); simp only [Act.put, List.setIfInBounds_toArray, List.set_cons_zero, List.set_cons_succ])
  repeat (first | (refine flow_pass ?_ ?_; (focus rfl); simp only [Act.put, List.setIfInBounds_toArray, List.set_cons_zero, List.set_cons_succ]) | (refine' flow_take (v := _) _ _ _; rotate_left; (focus rfl); (focus (intro wS hS; obtain ⟨hc, -⟩ := bcell hS; go_simp; try (first | exact ⟨rfl, hS⟩ | rfl))); simp only [Act.put, List.setIfInBounds_toArray, List.set_cons_zero, List.set_cons_succ]))
  (refine' flow_take (v := _) _ _ _; rotate_left; (focus rfl); (focus (intro wS hS; go_simp; refine (owns_any a0 a1 a2 a3 a4 a5 a6 a7 a8 a9 c0 c1 c2 c3 _).mono ?_; rintro e w' ⟨rfl, hb⟩; refine ⟨?_, hS.trans (hb.mono (Nat.le_trans (by simp) hS.size))⟩; rfl)); simp only [Act.put, List.setIfInBounds_toArray, List.set_cons_zero, List.set_cons_succ])
  by_cases hc : (c2 == 0) = true
  · repeat (first | (refine flow_pass ?_ ?_; (focus rfl); simp only [Act.put, List.setIfInBounds_toArray, List.set_cons_zero, List.set_cons_succ]) | (refine' flow_take (v := _) _ _ _; rotate_left; (focus rfl); (focus (intro wS hS; obtain ⟨hc, -⟩ := bcell hS; go_simp; try (first | exact ⟨rfl, hS⟩ | rfl))); simp only [Act.put, List.setIfInBounds_toArray, List.set_cons_zero, List.set_cons_succ]))
    (refine' flow_take (v := _) _ _ _; rotate_left; (focus rfl); (focus (intro wS hS; go_simp; refine (known_any _).mono ?_; rintro e w' ⟨rfl, hb⟩; refine ⟨?_, hS.trans (hb.mono (Nat.le_trans (by simp) hS.size))⟩; rfl)); simp only [Act.put, List.setIfInBounds_toArray, List.set_cons_zero, List.set_cons_succ])
    repeat (first | (refine flow_pass ?_ ?_; (focus rfl); simp only [Act.put, List.setIfInBounds_toArray, List.set_cons_zero, List.set_cons_succ]) | (refine' flow_take (v := _) _ _ _; rotate_left; (focus rfl); (focus (intro wS hS; obtain ⟨hc, -⟩ := bcell hS; go_simp; try (first | exact ⟨rfl, hS⟩ | rfl))); simp only [Act.put, List.setIfInBounds_toArray, List.set_cons_zero, List.set_cons_succ]))
    refine flow_nil ?_
    intro w1 hS
    go_wp2_with fail
    go_ret
    exact ⟨rfl, Below.trans (by go_grown) (hS.mono (by omega))⟩
  · have hc : (c2 == 0) = false := by simpa using hc
    repeat (first | (refine flow_pass ?_ ?_; (focus rfl); simp only [Act.put, List.setIfInBounds_toArray, List.set_cons_zero, List.set_cons_succ]) | (refine' flow_take (v := _) _ _ _; rotate_left; (focus rfl); (focus (intro wS hS; obtain ⟨hc, -⟩ := bcell hS; go_simp; try (first | exact ⟨rfl, hS⟩ | rfl))); simp only [Act.put, List.setIfInBounds_toArray, List.set_cons_zero, List.set_cons_succ]))
    (refine' flow_take (v := _) _ _ _; rotate_left; (focus rfl); (focus (intro wS hS; go_simp; refine (known_any _).mono ?_; rintro e w' ⟨rfl, hb⟩; refine ⟨?_, hS.trans (hb.mono (Nat.le_trans (by simp) hS.size))⟩; rfl)); simp only [Act.put, List.setIfInBounds_toArray, List.set_cons_zero, List.set_cons_succ])
    repeat (first | (refine flow_pass ?_ ?_; (focus rfl); simp only [Act.put, List.setIfInBounds_toArray, List.set_cons_zero, List.set_cons_succ]) | (refine' flow_take (v := _) _ _ _; rotate_left; (focus rfl); (focus (intro wS hS; obtain ⟨hc, -⟩ := bcell hS; go_simp; try (first | exact ⟨rfl, hS⟩ | rfl))); simp only [Act.put, List.setIfInBounds_toArray, List.set_cons_zero, List.set_cons_succ]))
    refine flow_nil ?_
    intro w1 hS
    go_wp2_with fail
    go_ret
    exact ⟨rfl, Below.trans (by go_grown) (hS.mono (by omega))⟩
end Go.Proofs.Ytkffddaogogigaa
