/- NetOnce: the plain law: how often a packet is under way, has come, was sent. -/
import Derived.Test.YtdffghaledkfeaaDo
namespace Go.Proofs.Ytdffghaledkfeaa
open Go Go.RowKit
open Classical in
noncomputable def cnt (p : Pk) : List Pk → Nat
  | [] => 0
  | q :: l => (if q = p then 1 else 0) + cnt p l
theorem cnt_append (p : Pk) (l m : List Pk) : cnt p (l ++ m) = cnt p l + cnt p m := by
  induction l with
  | nil => simp [cnt]
  | cons q l ih => simp only [List.cons_append, cnt, ih]; omega
theorem cnt_nil (p : Pk) : cnt p [] = 0 := rfl
theorem cnt_self (p : Pk) : cnt p [p] = 1 := by simp [cnt]
theorem cnt_other {p q : Pk} (h : q ≠ p) : cnt p [q] = 0 := by simp [cnt, h]
theorem cnt_mem {p : Pk} {l : List Pk} (h : 0 < cnt p l) : p ∈ l := by
  induction l with
  | nil => simp [cnt] at h
  | cons q l ih =>
    by_cases hq : q = p
    · subst hq; exact List.mem_cons_self
    · simp only [cnt, if_neg hq, Nat.zero_add] at h
      exact List.mem_cons_of_mem _ (ih h)
theorem cnt_out (p : Pk) {l : List Pk} {i : Nat} (h : i < l.length) : cnt p l = cnt p (out l i) + cnt p [l[i]] := by
  have e : l = l.take i ++ ([l[i]] ++ l.drop (i + 1)) := by
    rw [List.singleton_append, List.getElem_cons_drop, List.take_append_drop]
  have e2 := congrArg (cnt p) e
  rw [cnt_append, cnt_append] at e2
  unfold out
  rw [cnt_append]
  omega
structure OInv (x : Ns) (sent : List Pk) : Prop where
  to : ∀ k, ∀ p ∈ x.came k, p.t = k
  ct : ∀ p, cnt p x.way + cnt p (x.came p.t) ≤ cnt p sent
theorem once_new : OInv ⟨[], fun _ => []⟩ [] := ⟨by simp, by simp [cnt]⟩
/-- what the law writes down at a step -/
def Extra (x : Ns) (s : Stp) : List Pk := if (x.step s).b = true ∧ s.k = 1 then [s.p] else if (x.step s).b = true ∧ s.k = 4 then [x.at s.i] else []
theorem once_send {x : Ns} {sent : List Pk} (h : OInv x sent) (p : Pk) : OInv (x.send p).x (sent ++ if (x.send p).b = true then [p] else []) := by
  unfold Ns.send
  by_cases hm : May x.way p
  · rw [if_pos hm]
    simp only [if_true]
    refine ⟨h.to, fun q => ?_⟩
    have := h.ct q
    dsimp only
    rw [cnt_append, cnt_append]; omega
  · rw [if_neg hm]
    simpa [Ns.no] using h
theorem once_step {x : Ns} {sent : List Pk} (h : OInv x sent) (s : Stp) (h5 : s.k ≠ 5) (h6 : s.k ≠ 6) : OInv (x.step s).x (sent ++ Extra x s) := by
  unfold Extra Ns.step
  by_cases h1 : s.k = 1
  · simp only [h1, if_true, and_true]
    have := once_send h s.p
    split at this
    · rw [if_pos (by assumption)]; exact this
    · rename_i hb
      rw [if_neg hb, if_neg (by simp)]; exact this
  · by_cases h4 : s.k = 4
    · simp only [h4, show ¬ (4 : Int) = 1 by decide, show ¬ (4 : Int) = 2 by decide, show ¬ (4 : Int) = 3 by decide, if_true, if_false, and_false, and_true]
      unfold Ns.twice
      by_cases ht : x.there s.i
      · rw [if_pos ht]
        exact once_send h _
      · rw [if_neg ht]
        simpa [Ns.no] using h
    · simp only [h1, h4, h5, h6, if_false, and_false]
      rw [List.append_nil]
      by_cases h2 : s.k = 2
      · rw [if_pos h2]
        unfold Ns.deliver
        by_cases ht : x.there s.i ∧ (x.came (x.at s.i).t).length < 64
        · rw [if_pos ht]
          obtain ⟨k, hk, hlt, hat, hn⟩ := there_nat ht.1
          rw [hat, hn]
          refine ⟨fun j q hq => ?_, fun q => ?_⟩
          · dsimp only at hq
            by_cases hj : j = x.way[k].t
            · subst hj
              rw [upd_same] at hq
              rcases List.mem_append.1 hq with hq | hq
              · exact h.to _ q hq
              · rw [List.mem_singleton] at hq; rw [hq]
            · rw [upd_other _ _ hj] at hq
              exact h.to _ q hq
          · have := h.ct q
            have h3 := cnt_out q hlt
            dsimp only
            by_cases hj : q.t = x.way[k].t
            · rw [← hj, upd_same, cnt_append]
              omega
            · rw [upd_other _ _ hj]
              omega
        · rw [if_neg ht]; exact h
      · rw [if_neg h2]
        by_cases h3 : s.k = 3
        · rw [if_pos h3]
          unfold Ns.drop
          by_cases ht : x.there s.i
          · rw [if_pos ht]
            obtain ⟨k, hk, hlt, hat, hn⟩ := there_nat ht
            rw [hn]
            refine ⟨h.to, fun q => ?_⟩
            have := h.ct q
            have h3 := cnt_out q hlt
            dsimp only; omega
          · rw [if_neg ht]; exact h
        · rw [if_neg h3]; exact h
theorem once_next {x : Ns} {sent : List Pk} (h : OInv x sent) {i : Int} {p : Pk} {r : List Pk} (hc : x.came i = p :: r) :
    p.t = i ∧ p ∈ sent ∧ ∀ a (ha : a < sent.length), sent[a] = p → OInv ⟨x.way, upd x.came i r⟩ (out sent a) := by
  have ht : p.t = i := h.to i p (by rw [hc]; exact List.mem_cons_self)
  refine ⟨ht, cnt_mem ?_, fun a ha hap => ⟨fun k q hq => ?_, fun q => ?_⟩⟩
  · have := h.ct p
    rw [ht, hc] at this
    have h1 : cnt p (p :: r) = 1 + cnt p r := by simp [cnt]
    omega
  · dsimp only at hq
    by_cases hk : k = i
    · subst hk
      rw [upd_same] at hq
      exact h.to k q (by rw [hc]; exact List.mem_cons_of_mem _ hq)
    · rw [upd_other _ _ hk] at hq
      exact h.to k q hq
  · have h0 := h.ct q
    have h1 := cnt_out q ha
    rw [hap] at h1
    dsimp only
    by_cases hq : q = p
    · subst hq
      rw [cnt_self] at h1
      rw [ht, upd_same]
      rw [ht, hc] at h0
      have h2 : cnt q (q :: r) = 1 + cnt q r := by simp [cnt]
      omega
    · rw [cnt_other (fun e => hq e.symm)] at h1
      by_cases hk : q.t = i
      · rw [hk, upd_same]
        rw [hk, hc] at h0
        have h2 : cnt q (p :: r) = cnt q r := by
          have : p ≠ q := fun e => hq e.symm
          simp [cnt, this]
        omega
      · rw [upd_other _ _ hk]
        omega
theorem out_nil_len {L : List Pk} {a : Nat} (h : a < L.length) : (out L a).length + 1 = L.length := by
  rw [out_len h]; omega
end Go.Proofs.Ytdffghaledkfeaa
