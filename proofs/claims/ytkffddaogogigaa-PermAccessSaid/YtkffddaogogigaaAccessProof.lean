/-
  PermAccess: for every input the law returns true, and each argument reads behind the call as it read before. No condition.
-/
import Derived.Test.YtkffddaogogigaaRows
import Derived.Test.YtkffddaogogigaaFrame
import Derived.Test.YtkffddaogogigaaFlat
import Derived.Test.YtkffddaogogigaaAccessLaw
namespace Go.Proofs.Ytkffddaogogigaa.pPermAccess
open Go.ChangeShapes Go.WideShapes Go.ChangeAt Go.RowKit Go.ChangeMaps Go.WideMaps Go.WideElems
set_option linter.unusedVariables false

theorem own : ownKnob Try.prog.godebug = none := by kernel_rfl

set_option maxRecDepth 100000 in
theorem lifted (os : Os) (started : os.Started) (H : Type) (enc : TypeId × Value → H) :
    ReturnsInHanded {} Try.checked os 7 .any (Rows.permAccessSpec.pre6 enc Try.prog Try.f7 Rows.permAccessRow.domain false) (Rows.permAccessSpec.post enc Try.prog Try.f7 false true false false) := by
  refine law_lifted (C := Try.checked) (tb := 4) own started (by kernel_rfl) Try.func7
    (ChangeSpec.witness6 (enc := enc) (C := Try.checked) false ⟨#[], #[.agg #[.int .i64 0, .int .i64 0, .int .i64 0, .int .i64 0, .int .i64 0, .int .i64 0, .int .i64 0, .int .i64 0, .int .i64 0, .int .i64 0], .agg #[.int .i64 0, .int .i64 0, .int .i64 0, .int .i64 0], .int .i64 0, .int .i64 0], []⟩ 8 (by kernel_rfl) (by kernel_rfl) (by kernel_rfl) (by kernel_rfl))
    (by kernel_rfl) ?_ rfl Try.underlying4 rfl ?_ ?_
  · rw [Try.params7]
    intro t ht
    exact of_decide_eq_true (List.all_eq_true.1 (show ([23, 25, 3, 3] : List Nat).all (fun t => decide (Try.checked.prog.readableRec t = true ∧ t < Try.checked.prog.types.size)) = true from by kernel_rfl) t (by simpa using ht))
  · intro ds hds
    rw [Try.params7] at hds
    obtain ⟨e0, e1, e2, e3, rfl⟩ := listOf4 (by simpa using hds)
    rfl
  · intro W base args ds ps hval hA hlt hwt
    rw [Try.params7] at hA hval
    obtain ⟨v0, vs0, d0, ds0, p0, q0, hargs, rfl, rfl, h0, r0⟩ := trodAll_cons hA
    obtain ⟨v1, vs1, d1, ds1, p1, q1, rfl, rfl, rfl, h1, r1⟩ := trodAll_cons r0
    obtain ⟨v2, vs2, d2, ds2, p2, q2, rfl, rfl, rfl, h2, r2⟩ := trodAll_cons r1
    obtain ⟨v3, vs3, d3, ds3, p3, q3, rfl, rfl, rfl, h3, r3⟩ := trodAll_cons r2
    obtain ⟨rfl, rfl, rfl⟩ := trodAll_nil r3
    obtain rfl : args = #[v0, v1, v2, v3] := by cases args; simp_all
    obtain ⟨xa, hxa, rfl, _⟩ := flat_ints (n := 10) Try.underlying23 (by kernel_rfl) (ts := [3, 3, 3, 3, 3, 3, 3, 3, 3, 3]) (by kernel_rfl) (by simp [Try.underlying3]) (hval 0 23 v0 rfl rfl)
    obtain ⟨a0, a1, a2, a3, a4, a5, a6, a7, a8, a9, rfl⟩ := list10 hxa
    obtain ⟨xc, hxc, rfl, _⟩ := flat_ints (n := 4) Try.underlying25 (by kernel_rfl) (ts := [3, 3, 3, 3]) (by kernel_rfl) (by simp [Try.underlying3]) (hval 1 25 v1 rfl rfl)
    obtain ⟨c0, c1, c2, c3, rfl⟩ := list4 hxc
    obtain ⟨x, rfl, rfl, rfl, wx⟩ := open_int Try.underlying3 (hval 2 3 v2 rfl rfl) h2
    obtain ⟨y, rfl, rfl, rfl, wy⟩ := open_int Try.underlying3 (hval 3 3 v3 rfl rfl) h3
    exact access_walk a0 a1 a2 a3 a4 a5 a6 a7 a8 a9 c0 c1 c2 c3 x y W

theorem holds : Rows.PermAccessSaid :=
  OpenClaim.holds_of_wide 7 Try.f7 rfl rfl rfl rfl rfl rfl rfl ⟨rfl, rfl, rfl, rfl, rfl⟩ rfl rfl rfl rfl rfl (by kernel_rfl) Try.func7 (by kernel_rfl)
    (of_decide_eq_true (by kernel_rfl)) (by unfold Func.isWrapper; rw [if_neg (of_decide_eq_false (by kernel_rfl))]; exact ⟨rfl, rfl⟩)
    (fun os started H enc _ => lifted os started H enc)
#print axioms holds
end Go.Proofs.Ytkffddaogogigaa.pPermAccess
