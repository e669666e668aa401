/- index: Go's '==' on rows. -/
import Derived.Test.YtokhnbdhcehonaaGreatField
set_option linter.unusedSimpArgs false
set_option linter.unusedVariables false
namespace Go.Proofs.YtokhnbdhcehonaaGreat
open Go Go.RowKit Row
set_option maxRecDepth 100000
set_option maxHeartbeats 8000000 in
theorem equal_at (a b : At) (w : World) : (Op.equalIn 10000 45 (.agg (arr a)) (.agg (arr b))).run Tryz.prog w = .ok (decide (a = b)) w := by
  by_cases h : a = b
  · subst h
    simp only [arr, cells, At.cells]
    go_simp
  · rw [decide_eq_false h]
    obtain ⟨a0, a1, a2, a3, a4, a5, a6, a7, a8, a9⟩ := a
    obtain ⟨b0, b1, b2, b3, b4, b5, b6, b7, b8, b9⟩ := b
    simp only [arr, cells, At.cells]
    go_simp
    intro h0 h1 h2 h3 h4 h5 h6 h7 h8 h9
    exact h (by rw [h0, h1, h2, h3, h4, h5, h6, h7, h8, h9])
set_option maxHeartbeats 16000000 in
theorem equal_ch (a b : Ch) (w : World) : (Op.equalIn 10000 69 (.agg (arr a)) (.agg (arr b))).run Tryz.prog w = .ok (decide (a = b)) w := by
  by_cases h : a = b
  · subst h
    simp only [arr, cells, Ch.cells, At.cells, List.cons_append, List.nil_append]
    go_simp
  · rw [decide_eq_false h]
    obtain ⟨k, e, s, u, n, c, ⟨a0, a1, a2, a3, a4, a5, a6, a7, a8, a9⟩, m, t⟩ := a
    obtain ⟨k', e', s', u', n', c', ⟨b0, b1, b2, b3, b4, b5, b6, b7, b8, b9⟩, m', t'⟩ := b
    simp only [arr, cells, Ch.cells, At.cells, List.cons_append, List.nil_append]
    go_simp
    intro hk he hs hu hn hc h0 h1 h2 h3 h4 h5 h6 h7 h8 h9 hm ht
    exact h (by rw [hk, he, hs, bytes_ext hu, bytes_ext hn, bytes_ext hc, h0, h1, h2, h3, h4, h5, h6, h7, h8, h9, hm, ht])
theorem noGuard69 : Tryz.prog.eqGuardType Tryz.prog.depth 69 = false := by kernel_rfl
theorem noGuard45 : Tryz.prog.eqGuardType Tryz.prog.depth 45 = false := by kernel_rfl
section
variable {w : World} {ops : Array Oper} {rest : List Oper} {o : Oper} {a : Act} {Q : Exit → Act → World → Prop}
/-- 'x != y' on changes, where a guard lets it be -/
theorem rg_neq (x y : Operand) (t : TypeId) (ho : o.op = .binOp .neq 69 x y t) (hw : Region.wanted o (yielded ops a.tmps) = true) (p q : Ch) (hx : a.eval x = .agg (arr p)) (hy : a.eval y = .agg (arr q))
    (h : wpList Tryz.prog ops Q rest (a.put o.dst (.bool (!decide (p = q)))) w) : wpList Tryz.prog ops Q (o :: rest) a w := by
  refine wpList_want hw fun K hK => ?_
  unfold Oper.wp execOp
  simp only [ho, hx, hy, Sem.run_bind, Sem.run_pure, Result.andThen_ok, run_eqGuard_agg (hm := noGuard69), run_neq_struct, equal_ch]
  exact hK _ _ h
end
end Go.Proofs.YtokhnbdhcehonaaGreat
