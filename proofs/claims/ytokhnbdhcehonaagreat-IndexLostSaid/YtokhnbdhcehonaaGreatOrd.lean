/- index: strict orders on keys; sorted lists; put and find in them. Plain. -/
import Derived.WalkKit
import Derived.Sort.Walk0
set_option linter.unusedSimpArgs false
set_option linter.unusedVariables false
namespace Go.Proofs.YtokhnbdhcehonaaGreat
open Go
set_option linter.unusedSectionVars false
structure Lin {κ : Type} (lt : κ → κ → Bool) : Prop where
  irr : ∀ a, lt a a = false
  tr : ∀ a b c, lt a b = true → lt b c = true → lt a c = true
  tot : ∀ a b, a ≠ b → lt a b = true ∨ lt b a = true
theorem Lin.asy {κ : Type} {lt : κ → κ → Bool} (h : Lin lt) {a b : κ} (hab : lt a b = true) : lt b a = false := by
  cases hb : lt b a with
  | false => rfl
  | true => have := h.tr a b a hab hb; rw [h.irr] at this; cases this
theorem Lin.ne {κ : Type} {lt : κ → κ → Bool} (h : Lin lt) {a b : κ} (hab : lt a b = true) : a ≠ b := by
  rintro rfl; rw [h.irr] at hab; cases hab
def ilt (a b : Int) : Bool := decide (a < b)
def slt (a b : ByteArray) : Bool := Op.bytesLess a.toList b.toList
def lex {κ μ : Type} [DecidableEq κ] (l1 : κ → κ → Bool) (l2 : μ → μ → Bool) (a b : κ × μ) : Bool := l1 a.1 b.1 || (decide (a.1 = b.1) && l2 a.2 b.2)
theorem ilt_lin : Lin ilt := ⟨fun a => by simp [ilt], fun a b c h1 h2 => by simp [ilt] at *; omega, fun a b h => by simp [ilt]; omega⟩
theorem bytes_ext {a b : ByteArray} (h : a.toList = b.toList) : a = b := by
  rw [Lib.toList_data, Lib.toList_data] at h
  cases a; cases b
  simp only [ByteArray.mk.injEq] at *
  exact Array.toList_inj.1 h
theorem slt_lin : Lin slt := by
  refine ⟨fun a => ?_, fun a b c h1 h2 => ?_, fun a b h => ?_⟩
  · simp only [slt, bytesLess_eq, decide_eq_false_iff_not]
    exact List.lt_irrefl _
  · simp only [slt, bytesLess_eq, decide_eq_true_eq] at *
    exact List.lt_trans h1 h2
  · simp only [slt, bytesLess_eq, decide_eq_true_eq]
    have hne : a.toList ≠ b.toList := fun e => h (bytes_ext e)
    rcases Decidable.em (a.toList < b.toList) with h1 | h1
    · exact .inl h1
    · rcases Decidable.em (b.toList < a.toList) with h2 | h2
      · exact .inr h2
      · exact absurd (List.le_antisymm (List.not_lt.1 h2) (List.not_lt.1 h1)) hne
theorem lex_lin {κ μ : Type} [DecidableEq κ] {l1 : κ → κ → Bool} {l2 : μ → μ → Bool} (h1 : Lin l1) (h2 : Lin l2) : Lin (lex l1 l2) := by
  refine ⟨fun a => by simp [lex, h1.irr, h2.irr], fun a b c hab hbc => ?_, fun a b h => ?_⟩
  · simp only [lex, Bool.or_eq_true, Bool.and_eq_true, decide_eq_true_eq] at *
    rcases hab with hab | ⟨e1, hab⟩
    · rcases hbc with hbc | ⟨e2, hbc⟩
      · exact .inl (h1.tr _ _ _ hab hbc)
      · rw [← e2]; exact .inl hab
    · rcases hbc with hbc | ⟨e2, hbc⟩
      · rw [e1]; exact .inl hbc
      · exact .inr ⟨e1.trans e2, h2.tr _ _ _ hab hbc⟩
  · simp only [lex, Bool.or_eq_true, Bool.and_eq_true, decide_eq_true_eq]
    by_cases e : a.1 = b.1
    · have : a.2 ≠ b.2 := fun e2 => h (Prod.ext e e2)
      rcases h2.tot _ _ this with h | h
      · exact .inl (.inr ⟨e, h⟩)
      · exact .inr (.inr ⟨e.symm, h⟩)
    · rcases h1.tot _ _ e with h | h
      · exact .inl (.inl h)
      · exact .inr (.inl h)
/-- what a three-way comparison answers -/
def c3 {κ : Type} [DecidableEq κ] (lt : κ → κ → Bool) (a b : κ) : Int := if lt a b = true then -1 else if a = b then 0 else 1
section
variable {κ : Type} [DecidableEq κ] {lt : κ → κ → Bool}
theorem c3_neg (a b : κ) : decide (c3 lt a b < 0) = lt a b := by
  unfold c3
  cases lt a b <;> simp
  split <;> simp
theorem c3_zero (h : Lin lt) (a b : κ) : (c3 lt a b == 0) = decide (a = b) := by
  unfold c3
  by_cases e : a = b
  · subst e; simp [h.irr]
  · simp [e]; split <;> simp
theorem c3_lex {μ : Type} [DecidableEq μ] {l2 : μ → μ → Bool} (h : Lin lt) (a b : κ) (c d : μ) : (if c3 lt a b = 0 then c3 l2 c d else c3 lt a b) = c3 (lex lt l2) (a, c) (b, d) := by
  unfold c3 lex
  by_cases e : a = b
  · subst e
    simp [h.irr]
  · have : ¬ (a, c) = (b, d) := fun e2 => e (Prod.mk.inj e2).1
    simp only [e, this, decide_false, Bool.false_and, Bool.or_false, if_false]
    split <;> simp
end
section
variable {α κ : Type} [DecidableEq κ] (k : α → κ) (lt : κ → κ → Bool)
def Srt (l : List α) : Prop := l.Pairwise (fun a b => lt (k a) (k b) = true)
def put (l : List α) (x : α) : List α := l.filter (fun y => lt (k y) (k x)) ++ x :: l.filter (fun y => lt (k x) (k y))
def find (l : List α) (q : κ) : Option α := l.find? (fun y => decide (k y = q))
def del (l : List α) (q : κ) : List α := l.filter (fun y => !decide (k y = q))
/-- where a search ends -/
structure Cut (l : List α) (q : κ) (i : Nat) : Prop where
  le : i ≤ l.length
  lo : ∀ y ∈ l.take i, lt (k y) q = true
  hi : ∀ y ∈ l.drop i, lt (k y) q = false
variable {k lt} {l : List α} {q : κ} {i : Nat}
theorem filter_all {p : α → Bool} {l : List α} (h : ∀ y ∈ l, p y = true) : l.filter p = l := List.filter_eq_self.2 h
theorem filter_none {p : α → Bool} {l : List α} (h : ∀ y ∈ l, p y = false) : l.filter p = [] := List.filter_eq_nil_iff.2 fun y hy => by simp [h y hy]
theorem Cut.low (h : Cut k lt l q i) : l.filter (fun y => lt (k y) q) = l.take i := by
  conv => lhs; rw [← List.take_append_drop i l]
  rw [List.filter_append, filter_all h.lo, filter_none h.hi, List.append_nil]
theorem Cut.miss (hl : Lin lt) (h : Cut k lt l q i) (hno : ∀ y ∈ l, k y ≠ q) : l.filter (fun y => lt q (k y)) = l.drop i := by
  conv => lhs; rw [← List.take_append_drop i l]
  rw [List.filter_append, filter_none (fun y hy => hl.asy (h.lo y hy)), List.nil_append, filter_all (fun y hy => ?_)]
  rcases hl.tot q (k y) (fun e => hno y (List.mem_of_mem_drop hy) e.symm) with e | e
  · exact e
  · rw [h.hi y hy] at e; cases e
theorem Cut.hit (hl : Lin lt) (hs : Srt k lt l) (h : Cut k lt l q i) (hi : i < l.length) (he : k l[i] = q) : l.filter (fun y => lt q (k y)) = l.drop (i + 1) := by
  conv => lhs; rw [← List.take_append_drop i l, List.drop_eq_getElem_cons hi]
  rw [List.filter_append, filter_none (fun y hy => hl.asy (h.lo y hy)), List.nil_append, List.filter_cons, he, hl.irr, if_neg (by simp), filter_all (fun y hy => ?_)]
  rw [← he]
  obtain ⟨j, hj, rfl⟩ := List.getElem_of_mem hy
  rw [List.getElem_drop]
  exact List.pairwise_iff_getElem.1 hs i (i + 1 + j) hi (by rw [List.length_drop] at hj; omega) (by omega)
theorem Cut.there (hl : Lin lt) (hs : Srt k lt l) (h : Cut k lt l q i) {y : α} (hy : y ∈ l) (he : k y = q) : ∃ hi : i < l.length, l[i] = y := by
  obtain ⟨j, hj, rfl⟩ := List.getElem_of_mem hy
  have h1 : ¬ j < i := fun hji => by
    have := h.lo l[j] (List.mem_take_iff_getElem.2 ⟨j, by omega, rfl⟩)
    rw [he, hl.irr] at this; cases this
  have hi : i < l.length := by omega
  refine ⟨hi, ?_⟩
  by_cases hij : i = j
  · subst hij; rfl
  · exfalso
    have h2 := List.pairwise_iff_getElem.1 hs i j hi hj (by omega)
    have h3 := h.hi l[i] (by rw [List.drop_eq_getElem_cons hi]; exact List.mem_cons_self ..)
    rw [he] at h2
    rw [h2] at h3; cases h3
/-- what the search finds -/
theorem Cut.findEq (hl : Lin lt) (hs : Srt k lt l) (h : Cut k lt l q i) : find k l q = if hi : i < l.length then (if k l[i] = q then some l[i] else none) else none := by
  cases hf : find k l q with
  | none =>
    have hno := List.find?_eq_none.1 hf
    by_cases hi : i < l.length
    · rw [dif_pos hi, if_neg (by simpa using hno l[i] (List.getElem_mem hi))]
    · rw [dif_neg hi]
  | some y =>
    have he : k y = q := by simpa using List.find?_some hf
    obtain ⟨hi, rfl⟩ := h.there hl hs (List.mem_of_find?_eq_some hf) he
    rw [dif_pos hi, if_pos he]
theorem find_none {l : List α} {q : κ} : find k l q = none ↔ ∀ y ∈ l, k y ≠ q := by
  unfold Go.Proofs.YtokhnbdhcehonaaGreat.find
  rw [List.find?_eq_none]
  simp
theorem find_some {l : List α} {q : κ} {y : α} (h : find k l q = some y) : y ∈ l ∧ k y = q := ⟨List.mem_of_find?_eq_some h, by simpa using List.find?_some h⟩
theorem Cut.put_hit (hl : Lin lt) (hs : Srt k lt l) {x : α} (h : Cut k lt l (k x) i) (hi : i < l.length) (he : k l[i] = k x) : put k lt l x = l.set i x := by
  unfold put
  rw [h.low, h.hit hl hs hi he, List.set_eq_take_append_cons_drop, if_pos hi]
theorem Cut.put_miss (hl : Lin lt) {x : α} (h : Cut k lt l (k x) i) (hno : ∀ y ∈ l, k y ≠ k x) : put k lt l x = l.take i ++ x :: l.drop i := by
  unfold put
  rw [h.low, h.miss hl hno]
theorem put_sorted (hl : Lin lt) (hs : Srt k lt l) (x : α) : Srt k lt (put k lt l x) := by
  unfold Srt put
  rw [List.pairwise_append, List.pairwise_cons]
  refine ⟨List.Pairwise.filter _ hs, ⟨fun y hy => (List.mem_filter.1 hy).2, List.Pairwise.filter _ hs⟩, fun a ha b hb => ?_⟩
  have h1 : lt (k a) (k x) = true := (List.mem_filter.1 ha).2
  rcases List.mem_cons.1 hb with rfl | hb
  · exact h1
  · exact hl.tr _ _ _ h1 (List.mem_filter.1 hb).2
theorem mem_put (hl : Lin lt) {x y : α} : y ∈ put k lt l x ↔ y = x ∨ (y ∈ l ∧ k y ≠ k x) := by
  unfold put
  rw [List.mem_append, List.mem_cons, List.mem_filter, List.mem_filter]
  constructor
  · rintro (⟨h1, h2⟩ | rfl | ⟨h1, h2⟩)
    · exact .inr ⟨h1, hl.ne h2⟩
    · exact .inl rfl
    · exact .inr ⟨h1, (hl.ne h2).symm⟩
  · rintro (rfl | ⟨h1, h2⟩)
    · exact .inr (.inl rfl)
    · rcases hl.tot _ _ h2 with h3 | h3
      · exact .inl ⟨h1, h3⟩
      · exact .inr (.inr ⟨h1, h3⟩)
theorem Srt.filter (hs : Srt k lt l) (p : α → Bool) : Srt k lt (l.filter p) := List.Pairwise.filter _ hs
theorem Srt.inj (hl : Lin lt) (hs : Srt k lt l) {i j : Nat} (hi : i < l.length) (hj : j < l.length) (h : k l[i] = k l[j]) : i = j := by
  rcases Nat.lt_trichotomy i j with h1 | h1 | h1
  · have := List.pairwise_iff_getElem.1 hs i j hi hj h1
    rw [h, hl.irr] at this; cases this
  · exact h1
  · have := List.pairwise_iff_getElem.1 hs j i hj hi h1
    rw [h, hl.irr] at this; cases this
/-- the element of a key taken out by its place -/
theorem del_at (hl : Lin lt) (hs : Srt k lt l) (hi : i < l.length) : del k l (k l[i]) = l.take i ++ l.drop (i + 1) := by
  unfold del
  obtain ⟨q, hq⟩ : ∃ q, q = k l[i] := ⟨_, rfl⟩
  rw [← hq]
  conv => lhs; rw [← List.take_append_drop i l, List.drop_eq_getElem_cons hi]
  rw [List.filter_append, List.filter_cons, if_neg (by simp [hq]), filter_all, filter_all]
  · intro y hy
    obtain ⟨j, hj, rfl⟩ := List.getElem_of_mem hy
    rw [List.getElem_drop]
    rw [List.length_drop] at hj
    simp only [Bool.not_eq_true', decide_eq_false_iff_not, hq]
    intro e
    have := hs.inj hl (by omega) hi e
    omega
  · intro y hy
    obtain ⟨j, hj, rfl⟩ := List.mem_take_iff_getElem.1 hy
    simp only [Bool.not_eq_true', decide_eq_false_iff_not, hq]
    intro e
    have := hs.inj hl (by omega) hi e
    omega
end
end Go.Proofs.YtokhnbdhcehonaaGreat
