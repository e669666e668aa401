/-
  PendNil: for every input the law returns true, and each argument reads behind the call as it read before. No condition.
-/
import Derived.Test.YtbhiddppohbjhaaRows
import Derived.Test.YtbhiddppohbjhaaFrame
import Derived.Test.YtbhiddppohbjhaaFlat
import Derived.Test.YtbhiddppohbjhaaNil
namespace Go.Proofs.Ytbhiddppohbjhaa.pPendNil
open Go.ChangeShapes Go.WideShapes Go.ChangeAt Go.RowKit Go.ChangeMaps Go.WideMaps Go.WideElems
set_option linter.unusedVariables false

theorem own : ownKnob Try.prog.godebug = none := by kernel_rfl

set_option maxRecDepth 100000 in
theorem lifted (os : Os) (started : os.Started) (H : Type) (enc : TypeId × Value → H) :
    ReturnsInHanded {} Try.checked os 5 .any (Rows.pendNilSpec.pre6 enc Try.prog Try.f5 Rows.pendNilRow.domain false) (Rows.pendNilSpec.post enc Try.prog Try.f5 false true false false) := by
  refine law_lifted (C := Try.checked) (tb := 4) own started (by kernel_rfl) Try.func5
    (ChangeSpec.witness6 (enc := enc) (C := Try.checked) false ⟨#[], #[.agg #[.int .i64 0, .int .i64 0, .int .i64 0, .int .i64 0, .int .i64 0, .int .i64 0, .int .i64 0, .int .i64 0, .int .i64 0, .int .i64 0, .bool false, .int .i64 0, .int .i64 0, .int .i64 0, .int .i64 0, .string ⟨#[]⟩, .string ⟨#[]⟩, .string ⟨#[]⟩, .string ⟨#[]⟩, .int .i64 0, .int .i64 0, .int .i64 0, .string ⟨#[]⟩, .bool false, .int .i64 0, .bool false, .int .i64 0, .bool false, .int .i64 0, .bool false, .int .i64 0, .bool false, .int .i64 0, .bool false, .int .i64 0, .int .i64 0, .int .i64 0, .string ⟨#[]⟩]], []⟩ 8 (by kernel_rfl) (by kernel_rfl) (by kernel_rfl) (by kernel_rfl))
    (by kernel_rfl) ?_ rfl Try.underlying4 rfl ?_ ?_
  · rw [Try.params5]
    intro t ht
    exact of_decide_eq_true (List.all_eq_true.1 (show ([44] : List Nat).all (fun t => decide (Try.checked.prog.readableRec t = true ∧ t < Try.checked.prog.types.size)) = true from by kernel_rfl) t (by simpa using ht))
  · intro ds hds
    rw [Try.params5] at hds
    obtain ⟨e0, rfl⟩ := listOf1 (by simpa using hds)
    rfl
  · intro W base args ds ps hval hA hlt hwt
    rw [Try.params5] at hA hval
    obtain ⟨v0, vs0, d0, ds0, p0, q0, hargs, rfl, rfl, h0, r0⟩ := trodAll_cons hA
    obtain ⟨rfl, rfl, rfl⟩ := trodAll_nil r0
    obtain rfl : args = #[v0] := by cases args; simp_all
    obtain ⟨Vs, rfl, hts⟩ := struct_typed (d := 8) (ks := [2, 2, 2, 2, 2, 2, 2, 2, 2, 2, 0, 2, 2, 2, 2, 1, 1, 1, 1, 2, 2, 2, 1, 0, 2, 0, 2, 0, 2, 0, 2, 0, 2, 0, 2, 2, 2, 1]) Try.underlying44 (by kernel_rfl) (hval 0 44 v0 rfl rfl) h0
    obtain ⟨s, rfl, hPs⟩ := st_of_typed hts
    exact nil_walk s hPs W 

theorem holds : Rows.PendNilSaid :=
  OpenClaim.holds_of_wide 5 Try.f5 rfl rfl rfl rfl rfl rfl rfl ⟨rfl, rfl, rfl, rfl, rfl⟩ rfl rfl rfl rfl rfl (by kernel_rfl) Try.func5 (by kernel_rfl)
    (of_decide_eq_true (by kernel_rfl)) (by unfold Func.isWrapper; rw [if_neg (of_decide_eq_false (by kernel_rfl))]; exact ⟨rfl, rfl⟩)
    (fun os started H enc _ => lifted os started H enc)
#print axioms holds
end Go.Proofs.Ytbhiddppohbjhaa.pPendNil
