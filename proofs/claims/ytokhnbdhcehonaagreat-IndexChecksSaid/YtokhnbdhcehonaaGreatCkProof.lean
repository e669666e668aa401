/-
  IndexChecks: for every input the law returns true, and each argument reads behind the call as it read before. No condition.
-/
import Derived.Test.YtokhnbdhcehonaaGreatRows
import Derived.Test.YtokhnbdhcehonaaGreatFrame
import Derived.Test.YtokhnbdhcehonaaGreatFlat
import Derived.Test.YtokhnbdhcehonaaGreatCkX
set_option linter.unusedSimpArgs false
set_option linter.unusedVariables false
namespace Go.Proofs.YtokhnbdhcehonaaGreat.pIndexChecks
open Go.ChangeShapes Go.WideShapes Go.ChangeAt Go.RowKit Go.ChangeMaps Go.WideMaps Go.WideElems
set_option linter.unusedVariables false

theorem own : ownKnob Tryz.prog.godebug = none := by kernel_rfl

set_option maxRecDepth 100000 in
theorem lifted (os : Os) (started : os.Started) (H : Type) (enc : TypeId × Value → H) :
    ReturnsInHanded {} Tryz.checked os 6 .any (Rows.indexChecksSpec.pre6 enc Tryz.prog Tryz.f6 Rows.indexChecksRow.domain false) (Rows.indexChecksSpec.post enc Tryz.prog Tryz.f6 false true false false) := by
  refine law_lifted (C := Tryz.checked) (tb := 4) own started (by kernel_rfl) Tryz.func6
    (ChangeSpec.witness6 (enc := enc) (C := Tryz.checked) false ⟨#[], #[.agg #[.slice none 0 0, .slice none 0 0, .slice none 0 0, .slice none 0 0]], []⟩ 8 (by kernel_rfl) (by kernel_rfl) (by kernel_rfl) (by kernel_rfl))
    (by kernel_rfl) ?_ rfl Tryz.underlying4 rfl ?_ ?_
  · rw [Tryz.params6]
    intro t ht
    exact of_decide_eq_true (List.all_eq_true.1 (show ([30] : List Nat).all (fun t => decide (Tryz.checked.prog.readableRec t = true ∧ t < Tryz.checked.prog.types.size)) = true from by kernel_rfl) t (by simpa using ht))
  · intro ds hds
    rw [Tryz.params6] at hds
    obtain ⟨e0, rfl⟩ := listOf1 (by simpa using hds)
    rfl
  · intro W base args ds ps hval hA hlt hwt
    rw [Tryz.params6] at hA hval
    obtain ⟨v0, vs0, d0, ds0, p0, q0, hargs, rfl, rfl, h0, r0⟩ := trodAll_cons hA
    obtain ⟨rfl, rfl, rfl⟩ := trodAll_nil r0
    obtain rfl : args = #[v0] := by cases args; simp_all
    obtain ⟨c0, c1, c2, c3, y0, y1, y2, y3, m, rfl, rfl, rfl, g0, g1, g2, g3⟩ := Joins.open_agg4 Tryz.underlying30 (by kernel_rfl) (by kernel_rfl) (hval 0 30 v0 rfl rfl) h0
    obtain ⟨A1, R1, k1, rfl, a1, b1, t1, s1⟩ := O.slice_rows2 (d := 8) (ks := O.kH3) Tryz.underlying25 (by kernel_rfl) (by kernel_rfl) (by decide) g0
    obtain ⟨L1, rfl, o1⟩ := O.rows_of O.hd_typed R1 t1
    obtain ⟨A2, R2, k2, rfl, a2, b2, t2, s2⟩ := O.slice_rows2 (d := 8) (ks := O.kF11) Tryz.underlying26 (by kernel_rfl) (by kernel_rfl) (by decide) g1
    obtain ⟨L2, rfl, o2⟩ := O.rows_of O.fl_typed R2 t2
    obtain ⟨A3, R3, k3, rfl, a3, b3, t3, s3⟩ := O.slice_rows2 (d := 8) (ks := O.kN3) Tryz.underlying27 (by kernel_rfl) (by kernel_rfl) (by decide) g2
    obtain ⟨L3, rfl, -⟩ := O.rows_of O.nm_typed R3 t3
    obtain ⟨A4, R4, k4, rfl, a4, b4, t4, s4⟩ := O.slice_rows2 (d := 8) (ks := O.kB3) Tryz.underlying28 (by kernel_rfl) (by kernel_rfl) (by decide) g3
    obtain ⟨L4, rfl, o4⟩ := O.rows_of O.bl_typed R4 t4
    rw [List.length_map] at a1 a2 a3 a4
    simp only [List.length_map]
    exact O.checks_all a1 b1 a2 b2 a3 b3 a4 b4 s1 s2 s3 s4 o1 o2 o4

theorem holds : Rows.IndexChecksSaid :=
  OpenClaim.holds_of_wide 6 Tryz.f6 rfl rfl rfl rfl rfl rfl rfl ⟨rfl, rfl, rfl, rfl, rfl⟩ rfl rfl rfl rfl rfl (by kernel_rfl) Tryz.func6 (by kernel_rfl)
    (of_decide_eq_true (by kernel_rfl)) (by unfold Func.isWrapper; rw [if_neg (of_decide_eq_false (by kernel_rfl))]; exact ⟨rfl, rfl⟩)
    (fun os started H enc _ => lifted os started H enc)
#print axioms holds
end Go.Proofs.YtokhnbdhcehonaaGreat.pIndexChecks
