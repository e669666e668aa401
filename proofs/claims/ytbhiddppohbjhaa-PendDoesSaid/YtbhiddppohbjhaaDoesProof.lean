/-
  PendDoes: for every input the law returns true, and each argument reads behind the call as it read before. No condition.
-/
import Derived.Test.YtbhiddppohbjhaaRows
import Derived.Test.YtbhiddppohbjhaaFrame
import Derived.Test.YtbhiddppohbjhaaFlat
import Derived.Test.YtbhiddppohbjhaaDoesWalk
namespace Go.Proofs.Ytbhiddppohbjhaa.pPendDoes
open Go.ChangeShapes Go.WideShapes Go.ChangeAt Go.RowKit Go.ChangeMaps Go.WideMaps Go.WideElems
set_option linter.unusedVariables false

theorem own : ownKnob Try.prog.godebug = none := by kernel_rfl

set_option maxRecDepth 100000 in
theorem lifted (os : Os) (started : os.Started) (H : Type) (enc : TypeId × Value → H) :
    ReturnsInHanded {} Try.checked os 3 .any (Rows.pendDoesSpec.pre6 enc Try.prog Try.f3 Rows.pendDoesRow.domain false) (Rows.pendDoesSpec.post enc Try.prog Try.f3 false true false false) := by
  refine law_lifted (C := Try.checked) (tb := 4) own started (by kernel_rfl) Try.func3
    (ChangeSpec.witness6 (enc := enc) (C := Try.checked) false ⟨#[], #[.slice none 0 0, .int .i64 0, .int .i64 0], []⟩ 8 (by kernel_rfl) (by kernel_rfl) (by kernel_rfl) (by kernel_rfl))
    (by kernel_rfl) ?_ rfl Try.underlying4 rfl ?_ ?_
  · rw [Try.params3]
    intro t ht
    exact of_decide_eq_true (List.all_eq_true.1 (show ([22, 3, 3] : List Nat).all (fun t => decide (Try.checked.prog.readableRec t = true ∧ t < Try.checked.prog.types.size)) = true from by kernel_rfl) t (by simpa using ht))
  · intro ds hds
    rw [Try.params3] at hds
    obtain ⟨e0, e1, e2, rfl⟩ := listOf3 (by simpa using hds)
    rfl
  · intro W base args ds ps hval hA hlt hwt
    rw [Try.params3] at hA hval
    obtain ⟨v0, vs0, d0, ds0, p0, q0, hargs, rfl, rfl, h0, r0⟩ := trodAll_cons hA
    obtain ⟨v1, vs1, d1, ds1, p1, q1, rfl, rfl, rfl, h1, r1⟩ := trodAll_cons r0
    obtain ⟨v2, vs2, d2, ds2, p2, q2, rfl, rfl, rfl, h2, r2⟩ := trodAll_cons r1
    obtain ⟨rfl, rfl, rfl⟩ := trodAll_nil r2
    obtain rfl : args = #[v0, v1, v2] := by cases args; simp_all
    obtain ⟨AL, RL, capL, rfl, hcapL, hmaxL, htypedL, hrowsL⟩ := slice_rows (d := 8) (ks := [2,2,2,2,2,2,2,2,2,2,0,2,2,2,2,1,1,1,1,2,2,2,1,0,2,0,2,0,2,0,2,0,2,0,2,2,2,1]) Try.underlying22 (by kernel_rfl) (by kernel_rfl) (by decide) (hval 0 22 v0 rfl rfl) h0
    obtain ⟨L, rfl, hallL⟩ := sts_of_rows RL htypedL
    have hlenL : L.length ≤ maxLen := by simp at hcapL; omega
    rw [List.length_map]
    obtain ⟨up, rfl, rfl, rfl, wup⟩ := open_int Try.underlying3 (hval 1 3 v1 rfl rfl) h1
    obtain ⟨now, rfl, rfl, rfl, wnow⟩ := open_int Try.underlying3 (hval 2 3 v2 rfl rfl) h2
    exact does_walk AL L capL hlenL hallL up now W hrowsL

theorem holds : Rows.PendDoesSaid :=
  OpenClaim.holds_of_wide 3 Try.f3 rfl rfl rfl rfl rfl rfl rfl ⟨rfl, rfl, rfl, rfl, rfl⟩ rfl rfl rfl rfl rfl (by kernel_rfl) Try.func3 (by kernel_rfl)
    (of_decide_eq_true (by kernel_rfl)) (by unfold Func.isWrapper; rw [if_neg (of_decide_eq_false (by kernel_rfl))]; exact ⟨rfl, rfl⟩)
    (fun os started H enc _ => lifted os started H enc)
#print axioms holds
end Go.Proofs.Ytbhiddppohbjhaa.pPendDoes
