/- A struct by value, all of its cells integers of 64 bits: opened. -/
import Derived.WalkKit
import Derived.ProofKit
import Derived.OpenShut
set_option linter.unusedSimpArgs false
set_option linter.unusedVariables false
namespace Go.Proofs.YtokhnbdhcehonaaGreat
open Go.RowKit Go.ChangeShapes Go.WideShapes Go.ChangeAt

theorem list_of_int_cells : ∀ (l : List Value), (∀ v ∈ l, ∃ x : Int, v = .int .i64 x ∧ IntKind.i64.has x) → ∃ xs : List Int, l = xs.map (Value.int .i64) ∧ ∀ x ∈ xs, IntKind.i64.has x
  | [], _ => ⟨[], rfl, by simp⟩
  | v :: l, h => by
    obtain ⟨x, rfl, hx⟩ := h v (by simp)
    obtain ⟨xs, rfl, hxs⟩ := list_of_int_cells l fun u hu => h u (by simp [hu])
    exact ⟨x :: xs, rfl, by simpa using ⟨hx, hxs⟩⟩

theorem flat_ints {P : Program} {w : World} {r : Reach} {base : Nat} {t : TypeId} {fs : Array Field} {ts : List TypeId} {v : Value} {n : Nat} (hs : P.underlying t = some (.struct fs)) (hC : P.cellsOf t = n)
    (hts : P.cellTypes P.depth t = some ts) (hall : ∀ u ∈ ts, P.underlying u = some (.int .i64)) (hv : Value.okWide P w r base t v) :
    ∃ xs : List Int, xs.length = n ∧ v = .agg (xs.map (Value.int .i64)).toArray ∧ ∀ x ∈ xs, IntKind.i64.has x := by
  simp only [Value.okWide, hs] at hv
  obtain ⟨cs, rfl, hsz, ts', hts', _, hcell⟩ := hv
  rw [hts] at hts'
  obtain rfl : ts = ts' := by injection hts'
  obtain ⟨l⟩ := cs
  obtain ⟨xs, rfl, hx⟩ := list_of_int_cells l fun v hv => by
    obtain ⟨i, hi, rfl⟩ := List.getElem_of_mem hv
    obtain ⟨u, hu, hok⟩ := hcell i l[i] (by simp [hi])
    have hm := List.mem_of_getElem? hu
    have he := hall u hm
    simp only [Cell.okWide, he] at hok
    revert hok
    cases l[i] <;> simp [Cell.ok, he]
    intro h1 h2
    exact ⟨_, ⟨h1, rfl⟩, h2⟩
  exact ⟨xs, by simpa [hC] using hsz, rfl, hx⟩

theorem list4 {α : Type} {l : List α} (h : l.length = 4) : ∃ a b c d, l = [a, b, c, d] := by
  match l, h with
  | [a, b, c, d], _ => exact ⟨a, b, c, d, rfl⟩
theorem list10 {α : Type} {l : List α} (h : l.length = 10) : ∃ a b c d e f g h i j, l = [a, b, c, d, e, f, g, h, i, j] := by
  match l, h with
  | [a, b, c, d, e, f, g, h, i, j], _ => exact ⟨a, b, c, d, e, f, g, h, i, j, rfl⟩
theorem listOf1 {α : Type} {l : List α} (h : l.length = 1) : ∃ e0, l = [e0] := by
  match l, h with
  | [e0], _ => exact ⟨e0, rfl⟩
theorem listOf2 {α : Type} {l : List α} (h : l.length = 2) : ∃ e0 e1, l = [e0, e1] := by
  match l, h with
  | [e0, e1], _ => exact ⟨e0, e1, rfl⟩
theorem listOf3 {α : Type} {l : List α} (h : l.length = 3) : ∃ e0 e1 e2, l = [e0, e1, e2] := by
  match l, h with
  | [e0, e1, e2], _ => exact ⟨e0, e1, e2, rfl⟩
theorem listOf4 {α : Type} {l : List α} (h : l.length = 4) : ∃ e0 e1 e2 e3, l = [e0, e1, e2, e3] := by
  match l, h with
  | [e0, e1, e2, e3], _ => exact ⟨e0, e1, e2, e3, rfl⟩
theorem listOf5 {α : Type} {l : List α} (h : l.length = 5) : ∃ e0 e1 e2 e3 e4, l = [e0, e1, e2, e3, e4] := by
  match l, h with
  | [e0, e1, e2, e3, e4], _ => exact ⟨e0, e1, e2, e3, e4, rfl⟩
theorem listOf6 {α : Type} {l : List α} (h : l.length = 6) : ∃ e0 e1 e2 e3 e4 e5, l = [e0, e1, e2, e3, e4, e5] := by
  match l, h with
  | [e0, e1, e2, e3, e4, e5], _ => exact ⟨e0, e1, e2, e3, e4, e5, rfl⟩
theorem listOf7 {α : Type} {l : List α} (h : l.length = 7) : ∃ e0 e1 e2 e3 e4 e5 e6, l = [e0, e1, e2, e3, e4, e5, e6] := by
  match l, h with
  | [e0, e1, e2, e3, e4, e5, e6], _ => exact ⟨e0, e1, e2, e3, e4, e5, e6, rfl⟩
end Go.Proofs.YtokhnbdhcehonaaGreat
