/-
  SumNil: for every input the law returns true, and each argument reads behind the call as it read before. No condition.
-/
import Derived.Test.YthacpfijoadclaaRows
import Derived.Test.YthacpfijoadclaaFrame
import Derived.Test.YthacpfijoadclaaFlat
import Derived.Test.YthacpfijoadclaaSmallLaws
namespace Go.Proofs.Ythacpfijoadclaa.pSumNil
open Go.ChangeShapes Go.WideShapes Go.ChangeAt Go.RowKit Go.ChangeMaps Go.WideMaps Go.WideElems
set_option linter.unusedVariables false

theorem own : ownKnob Try.prog.godebug = none := by kernel_rfl

set_option maxRecDepth 100000 in
theorem lifted (os : Os) (started : os.Started) (H : Type) (enc : TypeId × Value → H) :
    ReturnsInHanded {} Try.checked os 7 .any (Rows.sumNilSpec.pre6 enc Try.prog Try.f7 Rows.sumNilRow.domain false) (Rows.sumNilSpec.post enc Try.prog Try.f7 false true false false) := by
  refine law_lifted (C := Try.checked) (tb := 4) own started (by kernel_rfl) Try.func7
    (ChangeSpec.witness6 (enc := enc) (C := Try.checked) false ⟨#[], #[.string ⟨#[]⟩, .int .u32 0], []⟩ 8 (by kernel_rfl) (by kernel_rfl) (by kernel_rfl) (by kernel_rfl))
    (by kernel_rfl) ?_ rfl Try.underlying4 rfl ?_ ?_
  · rw [Try.params7]
    intro t ht
    exact of_decide_eq_true (List.all_eq_true.1 (show ([9, 25] : List Nat).all (fun t => decide (Try.checked.prog.readableRec t = true ∧ t < Try.checked.prog.types.size)) = true from by kernel_rfl) t (by simpa using ht))
  · intro ds hds
    rw [Try.params7] at hds
    obtain ⟨e0, e1, rfl⟩ := listOf2 (by simpa using hds)
    rfl
  · intro W base args ds ps hval hA hlt hwt
    rw [Try.params7] at hA hval
    obtain ⟨v0, vs0, d0, ds0, p0, q0, hargs, rfl, rfl, h0, r0⟩ := trodAll_cons hA
    obtain ⟨v1, vs1, d1, ds1, p1, q1, rfl, rfl, rfl, h1, r1⟩ := trodAll_cons r0
    obtain ⟨rfl, rfl, rfl⟩ := trodAll_nil r1
    obtain rfl : args = #[v0, v1] := by cases args; simp_all
    obtain ⟨a, rfl, rfl, rfl, wa⟩ := open_string Try.underlying9 (hval 0 9 v0 rfl rfl) h0
    obtain ⟨n, rfl, rfl, rfl, wn⟩ := open_int Try.underlying25 (hval 1 25 v1 rfl rfl) h1
    exact nil_walk a wa n wn W 

theorem holds : Rows.SumNilSaid :=
  OpenClaim.holds_of_wide 7 Try.f7 rfl rfl rfl rfl rfl rfl rfl ⟨rfl, rfl, rfl, rfl, rfl⟩ rfl rfl rfl rfl rfl (by kernel_rfl) Try.func7 (by kernel_rfl)
    (of_decide_eq_true (by kernel_rfl)) (by unfold Func.isWrapper; rw [if_neg (of_decide_eq_false (by kernel_rfl))]; exact ⟨rfl, rfl⟩)
    (fun os started H enc _ => lifted os started H enc)
#print axioms holds
end Go.Proofs.Ythacpfijoadclaa.pSumNil
