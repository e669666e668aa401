/-
  PermLess: for every node, every credential, every 'want' and 'less': who may do want may do want&less, and anybody may do nothing. No condition.
-/
import Derived.Test.YtkffddaogogigaaRows
import Derived.Test.YtkffddaogogigaaFrame
import Derived.Test.YtkffddaogogigaaFlat
import Derived.Test.YtkffddaogogigaaLess
namespace Go.Proofs.Ytkffddaogogigaa
open Go.ChangeShapes Go.WideShapes Go.ChangeAt Go.RowKit

theorem ownGodebug : ownKnob Try.prog.godebug = none := by kernel_rfl

set_option maxRecDepth 100000 in
theorem less_lifted (os : Os) (started : os.Started) (H : Type) (enc : TypeId × Value → H) :
    ReturnsInHanded {} Try.checked os 3 .any (Rows.permLessSpec.pre6 enc Try.prog Try.f3 Rows.permLessRow.domain false) (Rows.permLessSpec.post enc Try.prog Try.f3 false true false false) := by
  refine law_lifted (C := Try.checked) (tb := 4) ownGodebug started (by kernel_rfl) Try.func3
    (ChangeSpec.witness6 (enc := enc) (C := Try.checked) false ⟨#[], #[.agg #[.int .i64 0, .int .i64 0, .int .i64 0, .int .i64 0, .int .i64 0, .int .i64 0, .int .i64 0, .int .i64 0, .int .i64 0, .int .i64 0], .agg #[.int .i64 0, .int .i64 0, .int .i64 0, .int .i64 0], .int .i64 0, .int .i64 0], []⟩ 8 (by kernel_rfl) (by kernel_rfl) (by kernel_rfl) (by kernel_rfl))
    (by kernel_rfl) ?_ rfl Try.underlying4 rfl ?_ ?_
  · rw [Try.params3]
    intro t ht
    exact of_decide_eq_true (List.all_eq_true.1 (show ([23, 25, 3, 3] : List Nat).all (fun t => decide (Try.checked.prog.readableRec t = true ∧ t < Try.checked.prog.types.size)) = true from by kernel_rfl) t (by simpa using ht))
  · intro ds hds
    rw [Try.params3] at hds
    obtain ⟨a, b, c, d, rfl⟩ := list4 (by simpa using hds)
    rfl
  · intro W base args ds ps hval hA hlt hwt
    rw [Try.params3] at hA hval
    obtain ⟨v0, v1, v2, v3, d0, d1, d2, d3, p0, p1, p2, p3, rfl, rfl, rfl, h0, h1, h2, h3⟩ := trodAll_four hA
    obtain ⟨xa, hxa, rfl, _⟩ := flat_ints (n := 10) Try.underlying23 (by kernel_rfl) (ts := [3, 3, 3, 3, 3, 3, 3, 3, 3, 3]) (by kernel_rfl) (by simp [Try.underlying3]) (hval 0 23 v0 rfl rfl)
    obtain ⟨xc, hxc, rfl, _⟩ := flat_ints (n := 4) Try.underlying25 (by kernel_rfl) (ts := [3, 3, 3, 3]) (by kernel_rfl) (by simp [Try.underlying3]) (hval 1 25 v1 rfl rfl)
    obtain ⟨a0, a1, a2, a3, a4, a5, a6, a7, a8, a9, rfl⟩ := list10 hxa
    obtain ⟨c0, c1, c2, c3, rfl⟩ := list4 hxc
    obtain ⟨x, rfl, rfl, rfl, _⟩ := open_int Try.underlying3 (hval 2 3 v2 rfl rfl) h2
    obtain ⟨y, rfl, rfl, rfl, _⟩ := open_int Try.underlying3 (hval 3 3 v3 rfl rfl) h3
    exact less_walk a0 a1 a2 a3 a4 a5 a6 a7 a8 a9 c0 c1 c2 c3 x y W

theorem less_holds : Rows.PermLessSaid :=
  OpenClaim.holds_of_wide 3 Try.f3 rfl rfl rfl rfl rfl rfl rfl ⟨rfl, rfl, rfl, rfl, rfl⟩ rfl rfl rfl rfl rfl (by kernel_rfl) Try.func3 (by kernel_rfl)
    (of_decide_eq_true (by kernel_rfl)) (by unfold Func.isWrapper; rw [if_neg (of_decide_eq_false (by kernel_rfl))]; exact ⟨rfl, rfl⟩)
    (fun os started H enc _ => less_lifted os started H enc)
#print axioms less_holds
end Go.Proofs.Ytkffddaogogigaa
