/- PermAccess: the walk of the law: asked together and one by one. -/
import Derived.Test.YtkffddaogogigaaBase
import Derived.Test.YtkffddaogogigaaBits
import Derived.Test.YtkffddaogogigaaBitsLaw
import Derived.Test.YtkffddaogogigaaAccess
import Derived.Test.YtkffddaogogigaaFlow
import Derived.Test.YtkffddaogogigaaProg
import Derived.ProofKit
import Derived.Handy
import Derived.Lib.Hide
namespace Go.Proofs.Ytkffddaogogigaa
open Go.RowKit

set_option maxHeartbeats 1600000 in
theorem access_walk (a0 a1 a2 a3 a4 a5 a6 a7 a8 a9 c0 c1 c2 c3 x y : Int) (w : World) :
    Calls Try.prog 7 #[.agg #[.int .i64 a0, .int .i64 a1, .int .i64 a2, .int .i64 a3, .int .i64 a4, .int .i64 a5, .int .i64 a6, .int .i64 a7, .int .i64 a8, .int .i64 a9], .agg #[.int .i64 c0, .int .i64 c1, .int .i64 c2, .int .i64 c3], .int .i64 x, .int .i64 y] w
      fun e w' => e = .returned (.bool true) ∧ Below w.heap.size w w' := by
  obtain ⟨h0, h1⟩ := bitsF_range a1 a3 a4 c2 c3
  have hr := ref_has (bitsF a1 a3 a4 c2 c3) a0 h0 h1
  have ho := and_or (hasF (bitsF a1 a3 a4 c2 c3) a0) x y
  have hrc : ∀ (w : World), Calls Try.prog 18 #[.agg #[.int .i64 a0, .int .i64 a1, .int .i64 a2, .int .i64 a3, .int .i64 a4, .int .i64 a5, .int .i64 a6, .int .i64 a7, .int .i64 a8, .int .i64 a9], .agg #[.int .i64 c0, .int .i64 c1, .int .i64 c2, .int .i64 c3], .int .i64 x] w
      fun e w' => e = .returned (.int .i64 (bits .and .i64 (hasF (bitsF a1 a3 a4 c2 c3) a0) x)) ∧ Below w.heap.size w w' := by
    intro w
    have := refaccess_any a0 a1 a2 a3 a4 a5 a6 a7 a8 a9 c0 c1 c2 c3 x w
    rw [hr] at this
    exact this
  have HR := Lib.hid hrc
  clear hrc hr
  go_enter Try.func7, Try.ntmps7
  go_wp2_with fail
  refine wp_region_flow_lit (fun w' => Below (w.heap.size + 2) ((w.alloc (.cells #[.int .i64 a0, .int .i64 a1, .int .i64 a2, .int .i64 a3, .int .i64 a4, .int .i64 a5, .int .i64 a6, .int .i64 a7, .int .i64 a8, .int .i64 a9] 23)).alloc (.cells #[.int .i64 c0, .int .i64 c1, .int .i64 c2, .int .i64 c3] 25)) w') (by kernel_rfl) (by kernel_rfl) (by go_grown) ?_
  repeat (first | (refine flow_pass ?_ ?_; (focus rfl); simp only [Act.put, List.setIfInBounds_toArray, List.set_cons_zero, List.set_cons_succ]) | (refine' flow_take (v := _) _ _ _; rotate_left; (focus rfl); (focus (intro wS hS; obtain ⟨hc, -⟩ := bcell hS; go_simp; try (first | exact ⟨rfl, hS⟩ | rfl))); simp only [Act.put, List.setIfInBounds_toArray, List.set_cons_zero, List.set_cons_succ]))
  (refine' flow_take (v := _) _ _ _; rotate_left; (focus rfl); (focus (intro wS hS; go_simp; refine (access_any a0 a1 a2 a3 a4 a5 a6 a7 a8 a9 c0 c1 c2 c3 x _).mono ?_; rintro e w' ⟨rfl, hb⟩; refine ⟨?_, hS.trans (hb.mono (Nat.le_trans (by simp) hS.size))⟩; rfl)); simp only [Act.put, List.setIfInBounds_toArray, List.set_cons_zero, List.set_cons_succ])
  repeat (first | (refine flow_pass ?_ ?_; (focus rfl); simp only [Act.put, List.setIfInBounds_toArray, List.set_cons_zero, List.set_cons_succ]) | (refine' flow_take (v := _) _ _ _; rotate_left; (focus rfl); (focus (intro wS hS; obtain ⟨hc, -⟩ := bcell hS; go_simp; try (first | exact ⟨rfl, hS⟩ | rfl))); simp only [Act.put, List.setIfInBounds_toArray, List.set_cons_zero, List.set_cons_succ]))
  (refine' flow_take (v := _) _ _ _; rotate_left; (focus rfl); (focus (intro wS hS; go_simp; refine (HR.out _).mono ?_; rintro e w' ⟨rfl, hb⟩; refine ⟨?_, hS.trans (hb.mono (Nat.le_trans (by simp) hS.size))⟩; rfl)); simp only [Act.put, List.setIfInBounds_toArray, List.set_cons_zero, List.set_cons_succ])
  repeat (first | (refine flow_pass ?_ ?_; (focus rfl); simp only [Act.put, List.setIfInBounds_toArray, List.set_cons_zero, List.set_cons_succ]) | (refine' flow_take (v := _) _ _ _; rotate_left; (focus rfl); (focus (intro wS hS; obtain ⟨hc, -⟩ := bcell hS; go_simp; try (first | exact ⟨rfl, hS⟩ | rfl))); simp only [Act.put, List.setIfInBounds_toArray, List.set_cons_zero, List.set_cons_succ]))
  (refine' flow_take (v := _) _ _ _; rotate_left; (focus rfl); (focus (intro wS hS; go_simp; refine (access_any a0 a1 a2 a3 a4 a5 a6 a7 a8 a9 c0 c1 c2 c3 _ _).mono ?_; rintro e w' ⟨rfl, hb⟩; refine ⟨?_, hS.trans (hb.mono (Nat.le_trans (by simp) hS.size))⟩; rfl)); simp only [Act.put, List.setIfInBounds_toArray, List.set_cons_zero, List.set_cons_succ])
  repeat (first | (refine flow_pass ?_ ?_; (focus rfl); simp only [Act.put, List.setIfInBounds_toArray, List.set_cons_zero, List.set_cons_succ]) | (refine' flow_take (v := _) _ _ _; rotate_left; (focus rfl); (focus (intro wS hS; obtain ⟨hc, -⟩ := bcell hS; go_simp; try (first | exact ⟨rfl, hS⟩ | rfl))); simp only [Act.put, List.setIfInBounds_toArray, List.set_cons_zero, List.set_cons_succ]))
  (refine' flow_take (v := _) _ _ _; rotate_left; (focus rfl); (focus (intro wS hS; go_simp; refine (access_any a0 a1 a2 a3 a4 a5 a6 a7 a8 a9 c0 c1 c2 c3 _ _).mono ?_; rintro e w' ⟨rfl, hb⟩; refine ⟨?_, hS.trans (hb.mono (Nat.le_trans (by simp) hS.size))⟩; rfl)); simp only [Act.put, List.setIfInBounds_toArray, List.set_cons_zero, List.set_cons_succ])
  repeat (first | (refine flow_pass ?_ ?_; (focus rfl); simp only [Act.put, List.setIfInBounds_toArray, List.set_cons_zero, List.set_cons_succ]) | (refine' flow_take (v := _) _ _ _; rotate_left; (focus rfl); (focus (intro wS hS; obtain ⟨hc, -⟩ := bcell hS; go_simp; try (first | exact ⟨rfl, hS⟩ | rfl))); simp only [Act.put, List.setIfInBounds_toArray, List.set_cons_zero, List.set_cons_succ]))
  (refine' flow_take (v := _) _ _ _; rotate_left; (focus rfl); (focus (intro wS hS; go_simp; refine (access_any a0 a1 a2 a3 a4 a5 a6 a7 a8 a9 c0 c1 c2 c3 _ _).mono ?_; rintro e w' ⟨rfl, hb⟩; refine ⟨?_, hS.trans (hb.mono (Nat.le_trans (by simp) hS.size))⟩; rfl)); simp only [Act.put, List.setIfInBounds_toArray, List.set_cons_zero, List.set_cons_succ])
  repeat (first | (refine flow_pass ?_ ?_; (focus rfl); simp only [Act.put, List.setIfInBounds_toArray, List.set_cons_zero, List.set_cons_succ]) | (refine' flow_take (v := _) _ _ _; rotate_left; (focus rfl); (focus (intro wS hS; obtain ⟨hc, -⟩ := bcell hS; go_simp; try (first | exact ⟨rfl, hS⟩ | rfl))); simp only [Act.put, List.setIfInBounds_toArray, List.set_cons_zero, List.set_cons_succ]))
  (refine' flow_take (v := _) _ _ _; rotate_left; (focus rfl); (focus (intro wS hS; go_simp; refine (known_any _).mono ?_; rintro e w' ⟨rfl, hb⟩; refine ⟨?_, hS.trans (hb.mono (Nat.le_trans (by simp) hS.size))⟩; rfl)); simp only [Act.put, List.setIfInBounds_toArray, List.set_cons_zero, List.set_cons_succ])
  repeat (first | (refine flow_pass ?_ ?_; (focus rfl); simp only [Act.put, List.setIfInBounds_toArray, List.set_cons_zero, List.set_cons_succ]) | (refine' flow_take (v := _) _ _ _; rotate_left; (focus rfl); (focus (intro wS hS; obtain ⟨hc, -⟩ := bcell hS; go_simp; try (first | exact ⟨rfl, hS⟩ | rfl))); simp only [Act.put, List.setIfInBounds_toArray, List.set_cons_zero, List.set_cons_succ]))
  refine flow_nil ?_
  intro w1 hS
  go_wp2_with fail
  go_ret
  exact ⟨rfl, Below.trans (by go_grown) (hS.mono (by omega))⟩
end Go.Proofs.Ytkffddaogogigaa
