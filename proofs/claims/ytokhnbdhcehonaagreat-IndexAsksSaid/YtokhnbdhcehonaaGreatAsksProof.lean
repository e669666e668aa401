/-
  IndexAsks: for every input the law returns true, and each argument reads behind the call as it read before. No condition.
-/
import Derived.Test.YtokhnbdhcehonaaGreatRows
import Derived.Test.YtokhnbdhcehonaaGreatFrame
import Derived.Test.YtokhnbdhcehonaaGreatFlat
import Derived.Test.YtokhnbdhcehonaaGreatAsks
set_option linter.unusedSimpArgs false
set_option linter.unusedVariables false
namespace Go.Proofs.YtokhnbdhcehonaaGreat.pIndexAsks
open Go.ChangeShapes Go.WideShapes Go.ChangeAt Go.RowKit Go.ChangeMaps Go.WideMaps Go.WideElems
set_option linter.unusedVariables false

theorem own : ownKnob Tryz.prog.godebug = none := by kernel_rfl

set_option maxRecDepth 100000 in
theorem lifted (os : Os) (started : os.Started) (H : Type) (enc : TypeId × Value → H) :
    ReturnsInHanded {} Tryz.checked os 4 .any (Rows.indexAsksSpec.pre6 enc Tryz.prog Tryz.f4 Rows.indexAsksRow.domain false) (Rows.indexAsksSpec.post enc Tryz.prog Tryz.f4 false true false false) := by
  refine law_lifted (C := Tryz.checked) (tb := 4) own started (by kernel_rfl) Tryz.func4
    (ChangeSpec.witness6 (enc := enc) (C := Tryz.checked) false ⟨#[], #[.slice none 0 0, .int .i64 0, .string ⟨#[]⟩, .string ⟨#[]⟩, .int .i64 0], []⟩ 8 (by kernel_rfl) (by kernel_rfl) (by kernel_rfl) (by kernel_rfl))
    (by kernel_rfl) ?_ rfl Tryz.underlying4 rfl ?_ ?_
  · rw [Tryz.params4]
    intro t ht
    exact of_decide_eq_true (List.all_eq_true.1 (show ([22, 3, 9, 9, 3] : List Nat).all (fun t => decide (Tryz.checked.prog.readableRec t = true ∧ t < Tryz.checked.prog.types.size)) = true from by kernel_rfl) t (by simpa using ht))
  · intro ds hds
    rw [Tryz.params4] at hds
    obtain ⟨e0, e1, e2, e3, e4, rfl⟩ := listOf5 (by simpa using hds)
    rfl
  · intro W base args ds ps hval hA hlt hwt
    rw [Tryz.params4] at hA hval
    obtain ⟨v0, vs0, d0, ds0, p0, q0, hargs, rfl, rfl, h0, r0⟩ := trodAll_cons hA
    obtain ⟨v1, vs1, d1, ds1, p1, q1, rfl, rfl, rfl, h1, r1⟩ := trodAll_cons r0
    obtain ⟨v2, vs2, d2, ds2, p2, q2, rfl, rfl, rfl, h2, r2⟩ := trodAll_cons r1
    obtain ⟨v3, vs3, d3, ds3, p3, q3, rfl, rfl, rfl, h3, r3⟩ := trodAll_cons r2
    obtain ⟨v4, vs4, d4, ds4, p4, q4, rfl, rfl, rfl, h4, r4⟩ := trodAll_cons r3
    obtain ⟨rfl, rfl, rfl⟩ := trodAll_nil r4
    obtain rfl : args = #[v0, v1, v2, v3, v4] := by cases args; simp_all
    obtain ⟨AL, RL, capL, rfl, hcapL, hmaxL, htypedL, hrowsL⟩ := slice_rows (d := 8) (ks := [2, 2, 2, 1, 1, 1, 2, 2, 2, 2, 2, 2, 2, 2, 2, 2, 2, 2]) Tryz.underlying22 (by kernel_rfl) (by kernel_rfl) (by decide) (hval 0 22 v0 rfl rfl) h0
    obtain ⟨L, rfl, hallL⟩ := chs_of_rows RL htypedL
    rw [List.length_map] at hcapL ⊢
    obtain ⟨ep, rfl, rfl, rfl, wep⟩ := open_int Tryz.underlying3 (hval 1 3 v1 rfl rfl) h1
    obtain ⟨up, rfl, rfl, rfl, wup⟩ := open_string Tryz.underlying9 (hval 2 9 v2 rfl rfl) h2
    obtain ⟨name, rfl, rfl, rfl, wname⟩ := open_string Tryz.underlying9 (hval 3 9 v3 rfl rfl) h3
    obtain ⟨no, rfl, rfl, rfl, wno⟩ := open_int Tryz.underlying3 (hval 4 3 v4 rfl rfl) h4
    exact asks_all AL L capL hcapL hmaxL hallL ep up wup name wname no W hrowsL

theorem holds : Rows.IndexAsksSaid :=
  OpenClaim.holds_of_wide 4 Tryz.f4 rfl rfl rfl rfl rfl rfl rfl ⟨rfl, rfl, rfl, rfl, rfl⟩ rfl rfl rfl rfl rfl (by kernel_rfl) Tryz.func4 (by kernel_rfl)
    (of_decide_eq_true (by kernel_rfl)) (by unfold Func.isWrapper; rw [if_neg (of_decide_eq_false (by kernel_rfl))]; exact ⟨rfl, rfl⟩)
    (fun os started H enc _ => lifted os started H enc)
#print axioms holds
end Go.Proofs.YtokhnbdhcehonaaGreat.pIndexAsks
