/- PendUnlike: the plain law. -/
import Derived.Test.YtbhiddppohbjhaaDue
namespace Go.Proofs.Ytbhiddppohbjhaa
open Go Go.RowKit
set_option maxRecDepth 100000
theorem un_is {M : Tb} {s : St} (h : 2 ≤ s.k ∧ s.k ≤ 4) : (doM M s).2 = (M s.c).isSome := by
  unfold doM
  have h3 : s.k = 2 ∨ s.k = 3 ∨ s.k = 4 := by omega
  rcases h3 with e | e | e
  · rw [if_neg (by omega), if_pos e]
    unfold dropM
    cases hm : M s.c <;> simp
  · rw [if_neg (by omega), if_neg (by omega), if_pos e]
    unfold cameM
    cases hm : M s.c <;> simp
  · rw [if_neg (by omega), if_neg (by omega), if_neg (by omega), if_pos e]
    unfold laterM
    cases hm : M s.c <;> simp
theorem un_came {M : Tb} {s : St} (h : s.k = 3) (hs : (M s.c).isSome = true) : ((doM M s).1 s.c).isSome = true ∧ ((vOf (M s.c)).ag = true → (vOf ((doM M s).1 s.c)).ag = true) := by
  unfold doM
  rw [if_neg (by omega), if_neg (by omega), if_pos h]
  unfold cameM
  cases hm : M s.c with
  | none => rw [hm] at hs; cases hs
  | some p =>
    dsimp only
    rw [upd_same]
    refine ⟨rfl, fun ha => ?_⟩
    have ha : p.ag = true := ha
    show (again p s.n s.m).ag = true
    simp [again, ha]
def big : Int := 9223372036854775807
theorem du_big {p : Pd} (h : p.ok) : p.du ≤ big := by
  have := h.du
  simp only [Lit.wf, Bool.and_eq_true, decide_eq_true_eq] at this
  exact this.2
theorem due_cl {M : Tb} {now : Int} {L : List Pk} (hM : Tok M) (h : DueL M now L) : (L.map fun p => p.1.cl).Nodup := by
  show List.Pairwise _ _
  rw [List.pairwise_map]
  refine List.Pairwise.imp_of_mem ?_ h.nd
  intro p q hp hq hpq e
  apply hpq
  obtain ⟨j, h1, _⟩ := (h.has p).1 hp
  obtain ⟨k, h2, _⟩ := (h.has q).1 hq
  have e1 := hM.me j _ h1
  have e2 := hM.me k _ h2
  have e3 : j = k := by rw [← e1, ← e2]; exact e
  subst e3
  rw [h1] at h2
  exact Subtype.ext (Option.some.inj h2)
theorem due_all {M : Tb} {L : List Pk} (hM : Tok M) (h : DueL M big L) : L.length = cnt M := by
  have h1 : (L.map fun p => p.1.cl).Perm (([1, 2, 3, 4] : List Int).filter fun k => (M k).isSome) := by
    rw [List.perm_ext_iff_of_nodup (due_cl hM h) (List.Pairwise.filter _ (by decide))]
    intro k
    rw [List.mem_map, List.mem_filter]
    constructor
    · rintro ⟨p, hp, rfl⟩
      obtain ⟨j, h1, _⟩ := (h.has p).1 hp
      have e1 := hM.me j _ h1
      have e2 := hM.lim j _ h1
      subst e1
      refine ⟨?_, by rw [h1]; rfl⟩
      have e3 : p.1.cl = 1 ∨ p.1.cl = 2 ∨ p.1.cl = 3 ∨ p.1.cl = 4 := by omega
      simpa using e3
    · rintro ⟨_, hk⟩
      obtain ⟨p, hp⟩ := Option.isSome_iff_exists.1 (by simpa using hk)
      exact ⟨⟨p, hM.ok k p hp⟩, (h.has _).2 ⟨k, hp, du_big (hM.ok k p hp)⟩, hM.me k p hp⟩
  have h2 := h1.length_eq
  rw [List.length_map] at h2
  rw [h2]
  unfold cnt one
  simp only [List.filter_cons, List.filter_nil]
  by_cases a1 : (M 1).isSome = true <;> by_cases a2 : (M 2).isSome = true <;> by_cases a3 : (M 3).isSome = true <;> by_cases a4 : (M 4).isSome = true <;> simp [a1, a2, a3, a4]
/-- two that are due, the one ahead of the other -/
theorem due_two {M : Tb} {now : Int} {L : List Pk} (hM : Tok M) (h : DueL M now L) {k i : Nat} (hki : k < i) (hi : i < L.length) :
    (L[k]'(by omega)).1.up ≠ L[i].1.up ∧ (L[k]'(by omega)).1.cl ≠ L[i].1.cl ∧ ¬ L[i].1.du < (L[k]'(by omega)).1.du ∧ ((L[k]'(by omega)).1.du = L[i].1.du → ¬ L[i].1.cl < (L[k]'(by omega)).1.cl) := by
  have hk : k < L.length := by omega
  obtain ⟨a, h1, _⟩ := (h.has L[k]).1 (List.getElem_mem hk)
  obtain ⟨b, h2, _⟩ := (h.has L[i]).1 (List.getElem_mem hi)
  have e1 := hM.me a _ h1
  have e2 := hM.me b _ h2
  have hne : L[k] ≠ L[i] := List.pairwise_iff_getElem.1 h.nd k i hk hi hki
  have hab : a ≠ b := fun e => by
    subst e
    rw [h1] at h2
    exact hne (Subtype.ext (Option.some.inj h2))
  have hs := List.pairwise_iff_getElem.1 h.srt k i hk hi hki
  unfold Ahead at hs
  refine ⟨fun e => hab (hM.un a b _ _ h1 h2 e), fun e => hab (by rw [← e1, ← e2, e]), fun e => hs (.inl e), fun e f => hs (.inr ⟨e.symm, f⟩)⟩
end Go.Proofs.Ytbhiddppohbjhaa
