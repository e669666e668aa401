/- index: lists of rows in memory; the walk's steps on whole rows. -/
import Derived.Test.YtokhnbdhcehonaaGreatCmp
set_option linter.unusedSimpArgs false
set_option linter.unusedVariables false
namespace Go.Proofs.YtokhnbdhcehonaaGreat
open Go Go.RowKit Row
set_option maxRecDepth 100000
set_option linter.unusedSectionVars false
section
variable {α : Type} [Row α]
def enc (l : List α) : List Value := l.flatMap cells
theorem enc_nil : enc ([] : List α) = [] := rfl
theorem enc_cons (x : α) (l : List α) : enc (x :: l) = cells x ++ enc l := rfl
theorem enc_append (l m : List α) : enc (l ++ m) = enc l ++ enc m := by simp [enc]
theorem enc_len (l : List α) : (enc l).length = l.length * n α := by
  induction l with
  | nil => simp [enc]
  | cons x l ih => rw [enc_cons, List.length_append, ih, len, List.length_cons, Nat.add_mul, Nat.one_mul, Nat.add_comm]
theorem enc_one (l : List α) : ∀ v ∈ enc l, v.oneCell' = true := by
  intro v hv
  obtain ⟨x, _, h⟩ := List.mem_flatMap.1 hv
  exact one x v h
theorem enc_take (l : List α) (j : Nat) : enc (l.take j) = (enc l).take (j * n α) := by
  induction l generalizing j with
  | nil => simp [enc]
  | cons x l ih =>
    cases j with
    | zero => simp [enc]
    | succ j =>
      rw [List.take_succ_cons, enc_cons, enc_cons, ih, List.take_append, len, show (j + 1) * n α = n α + j * n α by rw [Nat.add_mul, Nat.one_mul, Nat.add_comm], List.take_of_length_le (l := cells x) (by rw [len]; omega), show n α + j * n α - n α = j * n α by omega]
theorem enc_drop (l : List α) (j : Nat) : enc (l.drop j) = (enc l).drop (j * n α) := by
  induction l generalizing j with
  | nil => simp [enc]
  | cons x l ih =>
    cases j with
    | zero => simp
    | succ j =>
      rw [List.drop_succ_cons, enc_cons, ih, List.drop_append, len, show (j + 1) * n α = n α + j * n α by rw [Nat.add_mul, Nat.one_mul, Nat.add_comm], List.drop_of_length_le (l := cells x) (by rw [len]; omega), show n α + j * n α - n α = j * n α by omega, List.nil_append]
theorem enc_at {l : List α} {j i : Nat} (hj : j < l.length) (hi : i < n α) : (enc l)[j * n α + i]? = (cells l[j])[i]? := by
  have h1 : (enc l)[j * n α + i]? = ((enc l).drop (j * n α))[i]? := by rw [List.getElem?_drop]
  rw [h1, ← enc_drop, List.drop_eq_getElem_cons hj, enc_cons, List.getElem?_append_left (by rw [len]; exact hi)]
theorem enc_set {l : List α} {j : Nat} (hj : j < l.length) (x : α) : enc (l.set j x) = (enc l).take (j * n α) ++ cells x ++ (enc l).drop ((j + 1) * n α) := by
  rw [List.set_eq_take_append_cons_drop, if_pos hj, enc_append, enc_cons, enc_take, enc_drop, List.append_assoc]
end
section
variable {α : Type} [Row α] [RowT α]
/-- v: a slice of these rows, nil or anywhere among the blocks from B on -/
def Rs (w : World) (B : Nat) (v : Value) (l : List α) : Prop := Sl w B (RowT.T α) (n α) v l.length (enc l)
variable {w w' : World} {B : Nat} {v : Value} {l : List α}
theorem Rs.below (h : Rs w B v l) (hb : Below w.heap.size w w') : Rs w' B v l := Sl.below h hb
theorem Rs.mono (h : Rs w B v l) {B' : Nat} (hB : B' ≤ B) : Rs w B' v l := Sl.mono h hB
theorem Rs.nil (w : World) (B : Nat) : Rs w B (.slice none 0 0) ([] : List α) := Sl.nil _ _ _ _
/-- its value's shape, an element at hand -/
theorem Rs.shape (h : Rs w B v l) (hp : 0 < l.length) : ∃ b off cap, v = .slice (some ⟨b, off, none⟩) l.length cap ∧ l.length ≤ cap ∧ cap ≤ maxLen := Sl.shape h hp
theorem Rs.any (h : Rs w B v l) : ∃ A cap, v = .slice A l.length cap ∧ l.length ≤ cap ∧ cap ≤ maxLen := Sl.any h
theorem Rs.range {b off cap : Nat} (h : Rs w B (.slice (some ⟨b, off, none⟩) l.length cap) l) {j : Nat} (hj : j < l.length) : w.rangeAt b (off + j * n α) (cells l[j]) := by
  intro i u hu
  have hi : i < n α := by
    have := (List.getElem?_eq_some_iff.1 hu).1
    rwa [len] at this
  rw [Nat.add_assoc]
  exact Sl.cell h ((enc_at hj hi).trans hu)
theorem range_row {b : Nat} {x : α} {t : TypeId} (hb : w.heap[b]? = some (.cells (arr x) t)) : w.rangeAt b 0 (cells x) := by
  intro i u hu
  rw [Nat.zero_add, row_cell hb]
  simpa using hu
theorem rangeAt_below {b o : Nat} {cs : List Value} (h : w.rangeAt b o cs) (hlt : b < w.heap.size) (hb : Below w.heap.size w w') : w'.rangeAt b o cs := fun j u hu => ((bcell hb).1 b _ hlt).trans (h j u hu)
theorem size_T : (Tryz.prog.info? (RowT.T α)).map (·.size) = some (n α) := by obtain ⟨i, hi, _, hn, _⟩ := RowT.info (α := α); rw [hi]; simp [hn]
variable {ops : Array Oper} {rest : List Oper} {o : Oper} {a : Act} {Q : Exit → Act → World → Prop}
theorem rw_load (hgd : o.guard = none) (p : Operand) (ho : o.op = .load (RowT.T α) p) (b q : Nat) (hx : a.eval p = .pointer (some ⟨b, q, none⟩)) (x : α) (hr : w.rangeAt b q (cells x))
    (h : wpList Tryz.prog ops Q rest (a.put o.dst (.agg (arr x))) w) : wpList Tryz.prog ops Q (o :: rest) a w :=
  wpList_load_mid hgd (RowT.T α) p ho b q hx (cells x) _ hr RowT.hu RowT.hd (by rw [len]; exact size_T) h
theorem gives_row {K : World → Prop} {p : Operand} (ho : o.op = .load (RowT.T α) p) {b q : Nat} (hx : a.eval p = .pointer (some ⟨b, q, none⟩)) {x : α} (hr : w.rangeAt b q (cells x)) (hK : K w) :
    givesR Tryz.prog K (.agg (arr x)) ((execOp a.eval o).run Tryz.prog w) := by
  unfold execOp
  simp only [ho, hx, Instr.loadAt, Instr.sureAddr, Sem.run_bind, Sem.run_pure, Result.andThen_ok, run_loadVar_mid w b q (RowT.T α) (cells x) _ hr RowT.hu RowT.hd (by rw [len]; exact size_T)]
  exact ⟨rfl, hK⟩
theorem rw_alloc (hgd : o.guard = none) (ho : o.op = .alloc (RowT.T α)) (h : wpList Tryz.prog ops Q rest (a.put o.dst (.pointer (some ⟨w.heap.size, 0, none⟩))) (w.alloc (.cells (arr (RowT.z : α)) (RowT.T α)))) : wpList Tryz.prog ops Q (o :: rest) a w := by
  refine wpList_plain hgd fun K hK => ?_
  unfold Oper.wp execOp
  simp only [ho, Sem.run_bind, Sem.run_pure, Result.andThen_ok, RowT.halloc]
  exact hK _ _ h
theorem setCells_size (b : Nat) : ∀ (vs : List Value) (o : Nat) (w : World), (w.setCells b o vs).heap.size = w.heap.size
  | [], _, _ => rfl
  | v :: r, o, w => by
    rw [World.setCells, setCells_size b r]
    simp [World.setCell]
theorem overl_all {C D : Array Value} (hs : D.size = C.size) : overl C 0 D.toList = D := by
  apply Array.ext_getElem?
  intro j
  by_cases hj : j < D.size
  · have := overl_in C 0 D.toList j (by simpa using hj) (by simp [hs])
    rw [Nat.zero_add] at this
    rw [this]
    simp
  · rw [overl_out _ _ _ _ (.inr (by simp; omega)), Array.getElem?_eq_none (by omega), Array.getElem?_eq_none (by omega)]
theorem setCells_new (w : World) (t : TypeId) : ∀ (vs : List Value) (o : Nat) (C : Array Value), (w.alloc (.cells C t)).setCells w.heap.size o vs = w.alloc (.cells (overl C o vs) t)
  | [], _, _ => rfl
  | v :: r, o, C => by
    rw [World.setCells, World.setCell_alloc_new, setCells_new w t r (o + 1), overl]
theorem setCells_alloc {w : World} {C D : Array Value} {t : TypeId} (hs : D.size = C.size) : (w.alloc (.cells C t)).setCells w.heap.size 0 D.toList = w.alloc (.cells D t) := by
  rw [setCells_new, overl_all hs]
theorem setCells_all {w : World} {b : Nat} {C D : Array Value} {t : TypeId} (hb : w.heap[b]? = some (.cells C t)) (hs : D.size = C.size) : (w.setCells b 0 D.toList).heap[b]? = some (.cells D t) := by
  rw [setCells_heap _ _ _ _ hb, overl_all hs]
theorem there_all {w : World} {b : Nat} {C : Array Value} {t : TypeId} {m : Nat} (hb : w.heap[b]? = some (.cells C t)) (hs : m = C.size) : w.there b 0 m := fun j hj => by
  rw [Nat.zero_add, row_cell hb, row_froz hb]
  exact ⟨by rw [Array.getElem?_eq_getElem (by omega)]; rfl, rfl⟩
/-- a row stored into a block of its own -/
theorem rw_store (hgd : o.guard = none) (x y : Operand) (ho : o.op = .store (RowT.T α) x y) (b : Nat) (p : α) (C : Array Value) (hC : C.size = n α) (hx : a.eval x = .pointer (some ⟨b, 0, none⟩)) (hy : a.eval y = .agg (arr p)) {t : TypeId} (hb : w.heap[b]? = some (.cells C t))
    (h : ∀ w', w'.heap[b]? = some (.cells (arr p) t) → w.grownBy w' (some b) → w'.heap.size = w.heap.size → wpList Tryz.prog ops Q rest (a.put o.dst undef) w') : wpList Tryz.prog ops Q (o :: rest) a w := by
  have hs : (arr p).size = C.size := by rw [arr_size, hC]
  refine wpList_store_mid hgd (RowT.T α) x y ho b 0 (arr p) hx hy (there_all hb hs) (by rw [arr_size]; exact size_T) (arr_all p) ?_
  exact h _ (setCells_all hb hs) (setCells_grown _ _ _ _) (setCells_size _ _ _ _)
/-- a block made and filled at once -/
theorem rw_put (o' : Oper) (d : Nat) (y : Operand) (hgd : o.guard = none) (hgd' : o'.guard = none) (ho : o.op = .alloc (RowT.T α)) (hd : o.dst = some d) (ho' : o'.op = .store (RowT.T α) (.tmp d) y) (hd' : o'.dst = none) (p : α)
    (hx : (a.put (some d) (.pointer (some ⟨w.heap.size, 0, none⟩))).eval (.tmp d) = .pointer (some ⟨w.heap.size, 0, none⟩)) (hy : (a.put (some d) (.pointer (some ⟨w.heap.size, 0, none⟩))).eval y = .agg (arr p))
    (h : wpList Tryz.prog ops Q rest (a.put (some d) (.pointer (some ⟨w.heap.size, 0, none⟩))) (w.alloc (.cells (arr p) (RowT.T α)))) : wpList Tryz.prog ops Q (o :: o' :: rest) a w := by
  refine rw_alloc hgd ho ?_
  rw [hd]
  have hs : (arr p).size = (arr (RowT.z : α)).size := by rw [arr_size, arr_size]
  refine wpList_store_mid hgd' (RowT.T α) (.tmp d) y ho' w.heap.size 0 (arr p) hx hy (there_all (heap_alloc_new _ _) hs) (by rw [arr_size]; exact size_T) (arr_all p) ?_
  rw [hd']
  have e : (w.alloc (.cells (arr (RowT.z : α)) (RowT.T α))).setCells w.heap.size 0 (arr p).toList = w.alloc (.cells (arr p) (RowT.T α)) := setCells_alloc hs
  rw [e]
  simpa [Act.put] using h
/-- an element of a slice of the call's own, stored -/
theorem Rs.set {b off cap j : Nat} (h : Rs w B (.slice (some ⟨b, off, none⟩) l.length cap) l) (hj : j < l.length) (x : α) :
    Rs (w.setCells b (off + j * n α) (cells x)) B (.slice (some ⟨b, off, none⟩) l.length cap) (l.set j x) ∧ w.grownBy (w.setCells b (off + j * n α) (cells x)) (some b) := by
  refine ⟨?_, setCells_grown _ _ _ _⟩
  obtain ⟨hlen, h2⟩ := h
  rcases h2 with ⟨h0, _⟩ | ⟨b', off', cap', cur, he, hB, hg, h1, h2, h3, hc⟩
  · cases h0
  · cases he
    have e1 : (j + 1) * n α = j * n α + n α := by rw [Nat.add_mul, Nat.one_mul]
    have e2 : (j + 1) * n α ≤ l.length * n α := Nat.mul_le_mul_right _ hj
    have e3 : l.length * n α ≤ cap * n α := Nat.mul_le_mul_right _ h1
    refine ⟨by rw [enc_len], .inr ⟨b, off, cap, _, by rw [List.length_set], hB, setCells_heap _ _ _ _ hg, by rw [List.length_set]; exact h1, h2, by rw [overl_size]; exact h3, fun i u hu => ?_⟩⟩
    have hil : i < l.length * n α := by
      have := (List.getElem?_eq_some_iff.1 hu).1
      rwa [enc_len, List.length_set] at this
    rw [enc_set hj, List.append_assoc] at hu
    by_cases hi1 : i < j * n α
    · rw [List.getElem?_append_left (by rw [List.length_take, enc_len]; omega), List.getElem?_take, if_pos hi1] at hu
      rw [overl_out _ _ _ _ (.inl (by omega))]
      exact hc i u hu
    · rw [List.getElem?_append_right (by rw [List.length_take, enc_len]; omega), List.length_take, enc_len, show min (j * n α) (l.length * n α) = j * n α by omega] at hu
      by_cases hi2 : i < j * n α + n α
      · rw [List.getElem?_append_left (by rw [len]; omega)] at hu
        rw [show off + i = off + j * n α + (i - j * n α) by omega, overl_in _ _ _ _ (by rw [len]; omega) (by rw [len]; omega)]
        exact hu
      · rw [List.getElem?_append_right (by rw [len]; omega), len, List.getElem?_drop, show (j + 1) * n α + (i - j * n α - n α) = i by omega] at hu
        rw [overl_out _ _ _ _ (.inr (by rw [len]; omega))]
        exact hc i u hu
theorem Rs.there {b off cap j : Nat} (h : Rs w B (.slice (some ⟨b, off, none⟩) l.length cap) l) (hj : j < l.length) : w.there b (off + j * n α) (n α) := fun i hi => by
  have e2 : (j + 1) * n α ≤ l.length * n α := Nat.mul_le_mul_right _ hj
  rw [Nat.add_mul, Nat.one_mul] at e2
  have hlt : j * n α + i < (enc l).length := by rw [enc_len]; omega
  rw [Nat.add_assoc, Sl.cell h (List.getElem?_eq_getElem hlt), Sl.froz h]
  exact ⟨rfl, rfl⟩
theorem rw_set (hgd : o.guard = none) (x y : Operand) (ho : o.op = .store (RowT.T α) x y) {b off cap j : Nat} (h : Rs w B (.slice (some ⟨b, off, none⟩) l.length cap) l) (hj : j < l.length) (p : α) (hx : a.eval x = .pointer (some ⟨b, off + j * n α, none⟩)) (hy : a.eval y = .agg (arr p))
    (hK : ∀ w', Rs w' B (.slice (some ⟨b, off, none⟩) l.length cap) (l.set j p) → w.grownBy w' (some b) → w'.heap.size = w.heap.size → wpList Tryz.prog ops Q rest (a.put o.dst undef) w') : wpList Tryz.prog ops Q (o :: rest) a w := by
  refine wpList_store_mid hgd (RowT.T α) x y ho b (off + j * n α) (arr p) hx hy (by rw [arr_size]; exact h.there hj) (by rw [arr_size]; exact size_T) (arr_all p) ?_
  obtain ⟨h1, h2⟩ := h.set hj p
  exact hK _ h1 h2 (setCells_size _ _ _ _)
end
theorem res_row {α : Type} [Row α] [RowT α] {fn : Func} {c s : Nat} (h : fn.results = #[.cell c (RowT.T α), .tmp s]) (tmps : Array Value) (w : World) (g : Nat) (p : α) (v : Value) (hc : tmps.getD c undef = .pointer (some ⟨g, 0, none⟩)) (hs : tmps.getD s undef = v) {t : TypeId} (hb : w.heap[g]? = some (.cells (arr p) t)) :
    (results fn tmps).run Tryz.prog w = .ok (.tuple #[.agg (arr p), v]) w := by
  have hlv := run_loadVar_mid (P := Tryz.prog) w g 0 (RowT.T α) (cells p) _ (range_row hb) RowT.hu RowT.hd (by rw [len]; exact size_T)
  have hc' : tmps[c]?.getD undef = .pointer (some ⟨g, 0, none⟩) := by simpa using hc
  have hs' : tmps[s]?.getD undef = v := by simpa using hs
  simp [results, h, hc', hs', asAddr, hlv]
theorem mid_num {s : Int} (h0 : 0 ≤ s) (h1 : s ≤ 18446744073709551614) : wrap64 (IntKind.u64.wrap (wrap64 s) / 2) = s / 2 := by
  have e1 : IntKind.u64.wrap (wrap64 s) = s := by
    rw [IntKind.wrap_u64]
    unfold wrap64
    omega
  rw [e1]
  unfold wrap64
  omega
section
variable {α κ : Type} [DecidableEq κ] {k : α → κ} {lt : κ → κ → Bool} {l : List α} {q : κ}
theorem cut_lo (hl : Lin lt) (hs : Srt k lt l) {m : Nat} (hm : m < l.length) (h : lt (k l[m]) q = true) : ∀ y ∈ l.take (m + 1), lt (k y) q = true := by
  intro y hy
  obtain ⟨j, hj, rfl⟩ := List.mem_take_iff_getElem.1 hy
  by_cases e : j = m
  · subst e; exact h
  · exact hl.tr _ _ _ (List.pairwise_iff_getElem.1 hs j m (by omega) hm (by omega)) h
theorem cut_hi (hl : Lin lt) (hs : Srt k lt l) {m : Nat} (hm : m < l.length) (h : lt (k l[m]) q = false) : ∀ y ∈ l.drop m, lt (k y) q = false := by
  intro y hy
  obtain ⟨j, hj, rfl⟩ := List.getElem_of_mem hy
  rw [List.length_drop] at hj
  rw [List.getElem_drop]
  cases e : lt (k l[m + j]) q with
  | false => rfl
  | true =>
    by_cases e0 : j = 0
    · subst e0; simp only [Nat.add_zero] at e; rw [h] at e; cases e
    · have := hl.tr _ _ _ (List.pairwise_iff_getElem.1 hs m (m + j) hm (by omega) (by omega)) e
      rw [h] at this; cases this
end
theorem Rs.lt {α : Type} [Row α] [RowT α] {w : World} {B : Nat} {v : Value} {l : List α} (h : Rs w B v l) : ∀ k, v.ownBlock = some k → k < w.heap.size := Sl.lt h
end Go.Proofs.YtokhnbdhcehonaaGreat
