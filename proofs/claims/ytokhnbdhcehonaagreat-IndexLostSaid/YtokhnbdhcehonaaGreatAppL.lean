/- index: what a change does to a cache, plainly: it rises on, and grows by one at most. -/
import Derived.Test.YtokhnbdhcehonaaGreatApp
set_option linter.unusedSimpArgs false
set_option linter.unusedVariables false
namespace Go.Proofs.YtokhnbdhcehonaaGreat
open Go Go.RowKit Row
set_option linter.unusedSectionVars false
theorem two_filter {α : Type} (p q : α → Bool) (l : List α) (h : ∀ y, p y = true → q y = false) : (l.filter p).length + (l.filter q).length ≤ l.length := by
  induction l with
  | nil => simp
  | cons a l ih =>
    simp only [List.filter_cons, List.length_cons]
    cases hp : p a with
    | true => rw [h a hp]; simp; omega
    | false => cases hq : q a <;> simp <;> omega
section
variable {α κ : Type} [DecidableEq κ] {k : α → κ} {lt : κ → κ → Bool}
theorem put_len (hl : Lin lt) (l : List α) (x : α) : (put k lt l x).length ≤ l.length + 1 := by
  unfold put
  have := two_filter (fun y => lt (k y) (k x)) (fun y => lt (k x) (k y)) l (fun y hy => hl.asy hy)
  rw [List.length_append, List.length_cons]
  omega
theorem del_len (l : List α) (q : κ) : (del k l q).length ≤ l.length := List.length_filter_le _ _
theorem del_sorted {l : List α} (hs : Srt k lt l) (q : κ) : Srt k lt (del k l q) := hs.filter _
end
theorem bareC_rises {c : Ca} (h : Rises c) (u : ByteArray) : Rises (bareC c u) := ⟨h.hs, h.fs, h.ns.filter _, h.bs.filter _⟩
theorem bareC_few {c : Ca} {m : Nat} (h : Few c m) (u : ByteArray) : Few (bareC c u) m := ⟨h.hs, h.fs, filter_few _ h.ns, filter_few _ h.bs⟩
theorem doC_rises {c : Ca} (h : Rises c) (x : Ch) : Rises (doC c x).1 := by
  unfold doC handlesC filesC namesC blocksC
  repeat' split
  · exact ⟨del_sorted h.hs _, h.fs, h.ns, h.bs⟩
  · exact h
  · exact ⟨put_sorted lH_lin h.hs _, h.fs, h.ns, h.bs⟩
  · exact ⟨h.hs, put_sorted lF_lin h.fs _, h.ns, h.bs⟩
  · exact bareC_rises (c := { c with fs := del kF c.fs x.up }) ⟨h.hs, del_sorted h.fs _, h.ns, h.bs⟩ _
  · exact bareC_rises h _
  · exact ⟨h.hs, h.fs, put_sorted lN_lin h.ns _, h.bs⟩
  · exact ⟨h.hs, h.fs, del_sorted h.ns _, h.bs⟩
  · exact ⟨h.hs, h.fs, h.ns, del_sorted h.bs _⟩
  · exact ⟨h.hs, h.fs, h.ns, put_sorted lB_lin h.bs _⟩
theorem doC_few {c : Ca} {m : Nat} (h : Few c m) (x : Ch) : Few (doC c x).1 (m + 1) := by
  have h' := h.up (Nat.le_succ m)
  unfold doC handlesC filesC namesC blocksC
  repeat' split
  · exact ⟨Nat.le_trans (del_len _ _) h'.hs, h'.fs, h'.ns, h'.bs⟩
  · exact h'
  · exact ⟨Nat.le_trans (put_len lH_lin _ _) (Nat.succ_le_succ h.hs), h'.fs, h'.ns, h'.bs⟩
  · exact ⟨h'.hs, Nat.le_trans (put_len lF_lin _ _) (Nat.succ_le_succ h.fs), h'.ns, h'.bs⟩
  · exact bareC_few (c := { c with fs := del kF c.fs x.up }) ⟨h'.hs, Nat.le_trans (del_len _ _) h'.fs, h'.ns, h'.bs⟩ _
  · exact bareC_few h' _
  · exact ⟨h'.hs, h'.fs, Nat.le_trans (put_len lN_lin _ _) (Nat.succ_le_succ h.ns), h'.bs⟩
  · exact ⟨h'.hs, h'.fs, Nat.le_trans (del_len _ _) h'.ns, h'.bs⟩
  · exact ⟨h'.hs, h'.fs, h'.ns, Nat.le_trans (del_len _ _) h'.bs⟩
  · exact ⟨h'.hs, h'.fs, h'.ns, Nat.le_trans (put_len lB_lin _ _) (Nat.succ_le_succ h.bs)⟩
theorem apC_rises {c : Ca} (h : Rises c) (x : Ch) : Rises (apC c x).1 := by
  unfold apC
  repeat' split
  · exact doC_rises h x
  · exact h
  · exact h
theorem apC_few {c : Ca} {m : Nat} (h : Few c m) (x : Ch) : Few (apC c x).1 (m + 1) := by
  unfold apC
  repeat' split
  · exact doC_few h x
  · exact h.up (Nat.le_succ m)
  · exact h.up (Nat.le_succ m)
/-- changes, one behind the other; none: one is refused -/
def goC (c : Ca) : List Ch → Option Ca
  | [] => some c
  | x :: l => if (apC c x).2 = true then goC (apC c x).1 l else none
theorem goC_app (l m : List Ch) (c : Ca) : goC c (l ++ m) = (goC c l).bind (fun d => goC d m) := by
  induction l generalizing c with
  | nil => rfl
  | cons x l ih =>
    simp only [List.cons_append, goC]
    split
    · exact ih _
    · rfl
theorem goC_step {c d : Ca} {l : List Ch} {k : Nat} (hk : k < l.length) (h : goC c (l.take k) = some d) (hx : (apC d l[k]).2 = true) : goC c (l.take (k + 1)) = some (apC d l[k]).1 := by
  rw [List.take_succ_eq_append_getElem hk, goC_app, h]
  simp [goC, hx]
theorem goC_stop {c d : Ca} {l : List Ch} {k : Nat} (hk : k < l.length) (h : goC c (l.take k) = some d) (hx : (apC d l[k]).2 = false) : goC c l = none := by
  conv => lhs; rw [← List.take_append_drop k l, List.drop_eq_getElem_cons hk]
  rw [goC_app, h]
  simp [goC, hx]
theorem goC_rises {c d : Ca} {l : List Ch} (h : Rises c) (hd : goC c l = some d) : Rises d := by
  induction l generalizing c with
  | nil => cases hd; exact h
  | cons x l ih =>
    simp only [goC] at hd
    split at hd
    · exact ih (apC_rises h x) hd
    · cases hd
theorem goC_few {c d : Ca} {l : List Ch} {m : Nat} (h : Few c m) (hd : goC c l = some d) : Few d (m + l.length) := by
  induction l generalizing c m with
  | nil => cases hd; exact h
  | cons x l ih =>
    simp only [goC] at hd
    split at hd
    · have := ih (apC_few h x) hd
      rw [List.length_cons, show m + (l.length + 1) = m + 1 + l.length by omega]; exact this
    · cases hd
end Go.Proofs.YtokhnbdhcehonaaGreat
