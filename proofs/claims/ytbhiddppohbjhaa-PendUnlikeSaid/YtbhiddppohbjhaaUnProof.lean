/-
  PendUnlike: for every input the law returns true, and each argument reads behind the call as it read before. No condition.
-/
import Derived.Test.YtbhiddppohbjhaaRows
import Derived.Test.YtbhiddppohbjhaaFrame
import Derived.Test.YtbhiddppohbjhaaFlat
import Derived.Test.YtbhiddppohbjhaaUn
namespace Go.Proofs.Ytbhiddppohbjhaa.pPendUnlike
open Go.ChangeShapes Go.WideShapes Go.ChangeAt Go.RowKit Go.ChangeMaps Go.WideMaps Go.WideElems
set_option linter.unusedVariables false

theorem own : ownKnob Try.prog.godebug = none := by kernel_rfl

set_option maxRecDepth 100000 in
theorem lifted (os : Os) (started : os.Started) (H : Type) (enc : TypeId × Value → H) :
    ReturnsInHanded {} Try.checked os 4 .any (Rows.pendUnlikeSpec.pre6 enc Try.prog Try.f4 Rows.pendUnlikeRow.domain false) (Rows.pendUnlikeSpec.post enc Try.prog Try.f4 false true false false) := by
  refine law_lifted (C := Try.checked) (tb := 4) own started (by kernel_rfl) Try.func4
    (ChangeSpec.witness6 (enc := enc) (C := Try.checked) false ⟨#[], #[.slice none 0 0], []⟩ 8 (by kernel_rfl) (by kernel_rfl) (by kernel_rfl) (by kernel_rfl))
    (by kernel_rfl) ?_ rfl Try.underlying4 rfl ?_ ?_
  · rw [Try.params4]
    intro t ht
    exact of_decide_eq_true (List.all_eq_true.1 (show ([22] : List Nat).all (fun t => decide (Try.checked.prog.readableRec t = true ∧ t < Try.checked.prog.types.size)) = true from by kernel_rfl) t (by simpa using ht))
  · intro ds hds
    rw [Try.params4] at hds
    obtain ⟨e0, rfl⟩ := listOf1 (by simpa using hds)
    rfl
  · intro W base args ds ps hval hA hlt hwt
    rw [Try.params4] at hA hval
    obtain ⟨v0, vs0, d0, ds0, p0, q0, hargs, rfl, rfl, h0, r0⟩ := trodAll_cons hA
    obtain ⟨rfl, rfl, rfl⟩ := trodAll_nil r0
    obtain rfl : args = #[v0] := by cases args; simp_all
    obtain ⟨AL, RL, capL, rfl, hcapL, hmaxL, htypedL, hrowsL⟩ := slice_rows (d := 8) (ks := [2, 2, 2, 2, 2, 2, 2, 2, 2, 2, 0, 2, 2, 2, 2, 1, 1, 1, 1, 2, 2, 2, 1, 0, 2, 0, 2, 0, 2, 0, 2, 0, 2, 0, 2, 2, 2, 1]) Try.underlying22 (by kernel_rfl) (by kernel_rfl) (by decide) (hval 0 22 v0 rfl rfl) h0
    obtain ⟨L, rfl, hallL⟩ := sts_of_rows RL htypedL
    have hlenL : L.length ≤ maxLen := by simp at hcapL; omega
    rw [List.length_map]
    exact unlike_walk AL L capL hlenL hallL W hrowsL

theorem holds : Rows.PendUnlikeSaid :=
  OpenClaim.holds_of_wide 4 Try.f4 rfl rfl rfl rfl rfl rfl rfl ⟨rfl, rfl, rfl, rfl, rfl⟩ rfl rfl rfl rfl rfl (by kernel_rfl) Try.func4 (by kernel_rfl)
    (of_decide_eq_true (by kernel_rfl)) (by unfold Func.isWrapper; rw [if_neg (of_decide_eq_false (by kernel_rfl))]; exact ⟨rfl, rfl⟩)
    (fun os started H enc _ => lifted os started H enc)
#print axioms holds
end Go.Proofs.Ytbhiddppohbjhaa.pPendUnlike
