/-
  IndexLost: for every input the law returns true, and each argument reads behind the call as it read before. No condition.
-/
import Derived.Test.YtokhnbdhcehonaaGreatRows
import Derived.Test.YtokhnbdhcehonaaGreatFrame
import Derived.Test.YtokhnbdhcehonaaGreatFlat
import Derived.Test.YtokhnbdhcehonaaGreatLoX
set_option linter.unusedSimpArgs false
set_option linter.unusedVariables false
namespace Go.Proofs.YtokhnbdhcehonaaGreat.pIndexLost
open Go.ChangeShapes Go.WideShapes Go.ChangeAt Go.RowKit Go.ChangeMaps Go.WideMaps Go.WideElems
set_option linter.unusedVariables false

theorem own : ownKnob Tryz.prog.godebug = none := by kernel_rfl

set_option maxRecDepth 100000 in
theorem lifted (os : Os) (started : os.Started) (H : Type) (enc : TypeId × Value → H) :
    ReturnsInHanded {} Tryz.checked os 8 .any (Rows.indexLostSpec.pre6 enc Tryz.prog Tryz.f8 Rows.indexLostRow.domain false) (Rows.indexLostSpec.post enc Tryz.prog Tryz.f8 false true false false) := by
  refine law_lifted (C := Tryz.checked) (tb := 4) own started (by kernel_rfl) Tryz.func8
    (ChangeSpec.witness6 (enc := enc) (C := Tryz.checked) false ⟨#[], #[.slice none 0 0, .slice none 0 0], []⟩ 8 (by kernel_rfl) (by kernel_rfl) (by kernel_rfl) (by kernel_rfl))
    (by kernel_rfl) ?_ rfl Tryz.underlying4 rfl ?_ ?_
  · rw [Tryz.params8]
    intro t ht
    exact of_decide_eq_true (List.all_eq_true.1 (show ([22, 22] : List Nat).all (fun t => decide (Tryz.checked.prog.readableRec t = true ∧ t < Tryz.checked.prog.types.size)) = true from by kernel_rfl) t (by simpa using ht))
  · intro ds hds
    rw [Tryz.params8] at hds
    obtain ⟨e0, e1, rfl⟩ := listOf2 (by simpa using hds)
    rfl
  · intro W base args ds ps hval hA hlt hwt
    rw [Tryz.params8] at hA hval
    obtain ⟨v0, vs0, d0, ds0, p0, q0, hargs, rfl, rfl, h0, r0⟩ := trodAll_cons hA
    obtain ⟨v1, vs1, d1, ds1, p1, q1, rfl, rfl, rfl, h1, r1⟩ := trodAll_cons r0
    obtain ⟨rfl, rfl, rfl⟩ := trodAll_nil r1
    obtain rfl : args = #[v0, v1] := by cases args; simp_all
    obtain ⟨AM, RM, capM, rfl, hcapM, hmaxM, htypedM, hrowsM⟩ := slice_rows (d := 8) (ks := [2, 2, 2, 1, 1, 1, 2, 2, 2, 2, 2, 2, 2, 2, 2, 2, 2, 2]) Tryz.underlying22 (by kernel_rfl) (by kernel_rfl) (by decide) (hval 0 22 v0 rfl rfl) h0
    obtain ⟨M, rfl, hallM⟩ := chs_of_rows RM htypedM
    rw [List.length_map] at hcapM ⊢
    obtain ⟨AL, RL, capL, rfl, hcapL, hmaxL, htypedL, hrowsL⟩ := slice_rows (d := 8) (ks := [2, 2, 2, 1, 1, 1, 2, 2, 2, 2, 2, 2, 2, 2, 2, 2, 2, 2]) Tryz.underlying22 (by kernel_rfl) (by kernel_rfl) (by decide) (hval 1 22 v1 rfl rfl) h1
    obtain ⟨L, rfl, hallL⟩ := chs_of_rows RL htypedL
    rw [List.length_map] at hcapL ⊢
    exact lost_all AM M capM hcapM hmaxM hallM AL L capL hcapL hmaxL hallL W hrowsM hrowsL

theorem holds : Rows.IndexLostSaid :=
  OpenClaim.holds_of_wide 8 Tryz.f8 rfl rfl rfl rfl rfl rfl rfl ⟨rfl, rfl, rfl, rfl, rfl⟩ rfl rfl rfl rfl rfl (by kernel_rfl) Tryz.func8 (by kernel_rfl)
    (of_decide_eq_true (by kernel_rfl)) (by unfold Func.isWrapper; rw [if_neg (of_decide_eq_false (by kernel_rfl))]; exact ⟨rfl, rfl⟩)
    (fun os started H enc _ => lifted os started H enc)
#print axioms holds
end Go.Proofs.YtokhnbdhcehonaaGreat.pIndexLost
