/-
  IndexApplies: for every input the law returns true, and each argument reads behind the call as it read before. No condition.
-/
import Derived.Test.YtokhnbdhcehonaaGreatRows
import Derived.Test.YtokhnbdhcehonaaGreatFrame
import Derived.Test.YtokhnbdhcehonaaGreatFlat
import Derived.Test.YtokhnbdhcehonaaGreatApW
set_option linter.unusedSimpArgs false
set_option linter.unusedVariables false
namespace Go.Proofs.YtokhnbdhcehonaaGreat.pIndexApplies
open Go.ChangeShapes Go.WideShapes Go.ChangeAt Go.RowKit Go.ChangeMaps Go.WideMaps Go.WideElems
set_option linter.unusedVariables false

theorem own : ownKnob Tryz.prog.godebug = none := by kernel_rfl

set_option maxRecDepth 100000 in
theorem lifted (os : Os) (started : os.Started) (H : Type) (enc : TypeId × Value → H) :
    ReturnsInHanded {} Tryz.checked os 7 .any (Rows.indexAppliesSpec.pre6 enc Tryz.prog Tryz.f7 Rows.indexAppliesRow.domain false) (Rows.indexAppliesSpec.post enc Tryz.prog Tryz.f7 false true false false) := by
  refine law_lifted (C := Tryz.checked) (tb := 4) own started (by kernel_rfl) Tryz.func7
    (ChangeSpec.witness6 (enc := enc) (C := Tryz.checked) false ⟨#[], #[.slice none 0 0], []⟩ 8 (by kernel_rfl) (by kernel_rfl) (by kernel_rfl) (by kernel_rfl))
    (by kernel_rfl) ?_ rfl Tryz.underlying4 rfl ?_ ?_
  · rw [Tryz.params7]
    intro t ht
    exact of_decide_eq_true (List.all_eq_true.1 (show ([22] : List Nat).all (fun t => decide (Tryz.checked.prog.readableRec t = true ∧ t < Tryz.checked.prog.types.size)) = true from by kernel_rfl) t (by simpa using ht))
  · intro ds hds
    rw [Tryz.params7] at hds
    obtain ⟨e0, rfl⟩ := listOf1 (by simpa using hds)
    rfl
  · intro W base args ds ps hval hA hlt hwt
    rw [Tryz.params7] at hA hval
    obtain ⟨v0, vs0, d0, ds0, p0, q0, hargs, rfl, rfl, h0, r0⟩ := trodAll_cons hA
    obtain ⟨rfl, rfl, rfl⟩ := trodAll_nil r0
    obtain rfl : args = #[v0] := by cases args; simp_all
    obtain ⟨AM, RM, capM, rfl, hcapM, hmaxM, htypedM, hrowsM⟩ := slice_rows (d := 8) (ks := [2, 2, 2, 1, 1, 1, 2, 2, 2, 2, 2, 2, 2, 2, 2, 2, 2, 2]) Tryz.underlying22 (by kernel_rfl) (by kernel_rfl) (by decide) (hval 0 22 v0 rfl rfl) h0
    obtain ⟨M, rfl, hallM⟩ := chs_of_rows RM htypedM
    rw [List.length_map] at hcapM ⊢
    exact applies_all AM M capM hcapM hmaxM hallM W hrowsM

theorem holds : Rows.IndexAppliesSaid :=
  OpenClaim.holds_of_wide 7 Tryz.f7 rfl rfl rfl rfl rfl rfl rfl ⟨rfl, rfl, rfl, rfl, rfl⟩ rfl rfl rfl rfl rfl (by kernel_rfl) Tryz.func7 (by kernel_rfl)
    (of_decide_eq_true (by kernel_rfl)) (by unfold Func.isWrapper; rw [if_neg (of_decide_eq_false (by kernel_rfl))]; exact ⟨rfl, rfl⟩)
    (fun os started H enc _ => lifted os started H enc)
#print axioms holds
end Go.Proofs.YtokhnbdhcehonaaGreat.pIndexApplies
