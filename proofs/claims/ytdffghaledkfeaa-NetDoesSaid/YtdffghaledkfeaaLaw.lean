/- NetDoes: the plain law: the code's net and the document's answer alike. -/
import Derived.Test.YtdffghaledkfeaaRefDo
namespace Go.Proofs.Ytdffghaledkfeaa
open Go Go.RowKit
structure Rel (x : Ns) (y : Rs) : Prop where
  way : x.way = y.way
  came : ∀ k, x.came k = y.cl.filter (toP k)
theorem nextR_spec (i : Int) : ∀ (cl : List Pk), (nextR cl i = none ∧ cl.filter (toP i) = []) ∨ ∃ p l, nextR cl i = some (p, l) ∧ cl.filter (toP i) = p :: l.filter (toP i) ∧ (∀ k, k ≠ i → l.filter (toP k) = cl.filter (toP k)) ∧ cl.length = l.length + 1
  | [] => .inl ⟨rfl, rfl⟩
  | q :: cl => by
    unfold nextR
    by_cases hq : q.t = i
    · rw [if_pos hq]
      refine .inr ⟨q, cl, rfl, ?_, fun k hk => ?_, rfl⟩
      · rw [List.filter_cons_of_pos (by simp [toP, hq])]
      · rw [List.filter_cons_of_neg (by simp only [toP, decide_eq_true_eq]; intro e; exact hk (e ▸ hq))]
    · rw [if_neg hq]
      rcases nextR_spec i cl with ⟨h1, h2⟩ | ⟨p, l, h1, h2, h3, h4⟩
      · rw [h1]
        refine .inl ⟨rfl, ?_⟩
        rw [List.filter_cons_of_neg (by simp [toP, hq]), h2]
      · rw [h1]
        refine .inr ⟨p, q :: l, rfl, ?_, fun k hk => ?_, by simp [h4]⟩
        · rw [List.filter_cons_of_neg (by simp [toP, hq]), List.filter_cons_of_neg (by simp [toP, hq]), h2]
        · by_cases hk2 : toP k q = true
          · rw [List.filter_cons_of_pos hk2, List.filter_cons_of_pos hk2, h3 k hk]
          · rw [List.filter_cons_of_neg hk2, List.filter_cons_of_neg hk2, h3 k hk]
theorem nextN_spec (i : Int) (cl : List Pk) : ∀ j, j ≤ (cl.filter (toP i)).length → (nextN j cl i).filter (toP i) = (cl.filter (toP i)).drop j ∧ (∀ k, k ≠ i → (nextN j cl i).filter (toP k) = cl.filter (toP k)) ∧ (nextN j cl i).length ≤ cl.length
  | 0, _ => ⟨rfl, fun _ _ => rfl, Nat.le_refl _⟩
  | j + 1, hj => by
    obtain ⟨h1, h2, h3⟩ := nextN_spec i cl j (by omega)
    unfold nextN nextL
    rcases nextR_spec i (nextN j cl i) with ⟨e1, e2⟩ | ⟨p, l, e1, e2, e3, e4⟩
    · rw [h1] at e2
      have := congrArg List.length e2
      simp at this; omega
    · rw [e1]
      simp only
      refine ⟨?_, fun k hk => (e3 k hk).trans (h2 k hk), by omega⟩
      rw [h1] at e2
      have := congrArg (List.drop 1) e2
      rw [List.drop_drop] at this
      simpa using this.symm
theorem rel_new : Rel ⟨[], fun _ => []⟩ ⟨[], []⟩ := ⟨rfl, fun _ => rfl⟩
structure Like (d : Did) (e : RDid) (lim : Nat) : Prop where
  p : d.p = e.p
  n : d.n = e.n
  b : d.b = e.b
  rel : Rel d.x e.x
  len : e.x.cl.length ≤ lim
theorem rel_at {x : Ns} {y : Rs} (h : Rel x y) (i : Int) : x.at i = y.at i := by unfold Ns.at Rs.at; rw [h.way]
theorem rel_there {x : Ns} {y : Rs} (h : Rel x y) (i : Int) : x.there i ↔ y.there i := by unfold Ns.there Rs.there; rw [h.way]
theorem like_no {x : Ns} {y : Rs} (h : Rel x y) : Like x.no y.no (y.cl.length + 1) := ⟨rfl, rfl, rfl, h, Nat.le_succ _⟩
theorem like_send {x : Ns} {y : Rs} (h : Rel x y) (p : Pk) : Like (x.send p) (y.send p) (y.cl.length + 1) := by
  unfold Ns.send Rs.send
  rw [← h.way]
  by_cases hm : May x.way p
  · rw [if_pos hm, if_pos hm, decide_eq_true hm]
    exact ⟨rfl, rfl, rfl, ⟨rfl, h.came⟩, Nat.le_succ _⟩
  · rw [if_neg hm, if_neg hm, decide_eq_false hm]
    exact ⟨rfl, rfl, rfl, ⟨rfl, h.came⟩, Nat.le_succ _⟩
theorem like_deliver {x : Ns} {y : Rs} (h : Rel x y) (i : Int) : Like (x.deliver i) (y.deliver i) (y.cl.length + 1) := by
  unfold Ns.deliver Rs.deliver
  rw [rel_at h, h.came]
  by_cases hm : y.there i ∧ (y.cl.filter (toP (y.at i).t)).length < 64
  · rw [if_pos ⟨(rel_there h i).2 hm.1, hm.2⟩, if_pos hm]
    refine ⟨rfl, rfl, rfl, ⟨by rw [h.way], fun k => ?_⟩, by simp⟩
    dsimp only
    rw [List.filter_append]
    by_cases hk : k = (y.at i).t
    · subst hk
      rw [upd_same]
      simp [toP]
    · rw [upd_other _ _ hk, h.came]
      simp [toP, Ne.symm hk]
  · rw [if_neg fun e => hm ⟨(rel_there h i).1 e.1, e.2⟩, if_neg hm]
    exact like_no h
theorem like_drop {x : Ns} {y : Rs} (h : Rel x y) (i : Int) : Like (x.drop i) (y.drop i) (y.cl.length + 1) := by
  unfold Ns.drop Rs.drop
  by_cases hm : y.there i
  · rw [if_pos ((rel_there h i).2 hm), if_pos hm]
    exact ⟨rfl, rfl, rfl, ⟨by rw [h.way], h.came⟩, Nat.le_succ _⟩
  · rw [if_neg fun e => hm ((rel_there h i).1 e), if_neg hm]
    exact like_no h
theorem like_twice {x : Ns} {y : Rs} (h : Rel x y) (i : Int) : Like (x.twice i) (y.twice i) (y.cl.length + 1) := by
  unfold Ns.twice Rs.twice
  by_cases hm : y.there i
  · rw [if_pos ((rel_there h i).2 hm), if_pos hm, rel_at h]
    exact like_send h _
  · rw [if_neg fun e => hm ((rel_there h i).1 e), if_neg hm]
    exact like_no h
theorem like_next {x : Ns} {y : Rs} (h : Rel x y) (i : Int) : Like (x.next i) (y.next i) (y.cl.length + 1) := by
  unfold Ns.next Rs.next
  rw [h.came]
  rcases nextR_spec i y.cl with ⟨e1, e2⟩ | ⟨p, l, e1, e2, e3, e4⟩
  · rw [e1, e2]
    exact like_no h
  · rw [e1, e2]
    refine ⟨rfl, rfl, rfl, ⟨h.way, fun k => ?_⟩, by simp; omega⟩
    dsimp only
    by_cases hk : k = i
    · subst hk
      rw [upd_same]
    · rw [upd_other _ _ hk, h.came, e3 k hk]
theorem like_clear {x : Ns} {y : Rs} (h : Rel x y) (i : Int) : Like (x.clear i) (y.clear i) (y.cl.length + 1) := by
  unfold Ns.clear Rs.clear
  rw [h.came]
  obtain ⟨h1, h2, h3⟩ := nextN_spec i y.cl _ (Nat.le_refl _)
  rw [List.drop_length] at h1
  by_cases h0 : 0 < (y.cl.filter (toP i)).length
  · rw [if_pos h0, decide_eq_true h0]
    refine ⟨rfl, rfl, rfl, ⟨h.way, fun k => ?_⟩, Nat.le_succ_of_le h3⟩
    dsimp only
    by_cases hk : k = i
    · subst hk
      rw [upd_same]
      exact h1.symm
    · rw [upd_other _ _ hk, h.came]
      exact (h2 k hk).symm
  · rw [if_neg h0, decide_eq_false h0]
    have h00 : (y.cl.filter (toP i)).length = 0 := by omega
    refine ⟨rfl, by rw [h00]; rfl, rfl, ⟨h.way, fun k => ?_⟩, Nat.le_succ_of_le h3⟩
    rw [h00]
    exact h.came k
theorem like_step {x : Ns} {y : Rs} (h : Rel x y) (s : Stp) : Like (x.step s) (y.step s) (y.cl.length + 1) := by
  unfold Ns.step Rs.step
  split
  · exact like_send h _
  · split
    · exact like_deliver h _
    · split
      · exact like_drop h _
      · split
        · exact like_twice h _
        · split
          · exact like_next h _
          · split
            · exact like_clear h _
            · exact like_no h
end Go.Proofs.Ytdffghaledkfeaa
