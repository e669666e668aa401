/- pend: the plain law: what a step makes of a table. -/
import Derived.Test.YtbhiddppohbjhaaOps
namespace Go.Proofs.Ytbhiddppohbjhaa
open Go Go.RowKit
theorem by_some {M : Tb} {u : Int} {o : Pd} (h : byK M u = some o) : ∃ k : Int, 1 ≤ k ∧ k ≤ 4 ∧ M k = some o ∧ o.up = u := by
  have key : ∀ k : Int, upIs (M k) u = true → M k = some o → o.up = u := fun k h1 h2 => by
    rw [h2] at h1
    simpa [upIs] using h1
  unfold byK at h
  split at h
  · exact ⟨1, by omega, by omega, h, key 1 ‹_› h⟩
  · split at h
    · exact ⟨2, by omega, by omega, h, key 2 ‹_› h⟩
    · split at h
      · exact ⟨3, by omega, by omega, h, key 3 ‹_› h⟩
      · split at h
        · exact ⟨4, by omega, by omega, h, key 4 ‹_› h⟩
        · cases h
theorem by_not {M : Tb} {u : Int} (h : byK M u = none) {k : Int} (h1 : 1 ≤ k) (h4 : k ≤ 4) {q : Pd} (hq : M k = some q) : q.up ≠ u := by
  intro hu
  have hk : upIs (M k) u = true := by rw [hq]; simp [upIs, hu]
  have h5 : k = 1 ∨ k = 2 ∨ k = 3 ∨ k = 4 := by omega
  unfold byK at h
  rcases h5 with rfl | rfl | rfl | rfl
  · first | (rw [if_pos hk, hq] at h; cases h) | (rw [hq] at h; cases h)
  · split at h
    · rename_i h6; rw [h] at h6; cases h6
    · first | (rw [if_pos hk, hq] at h; cases h) | (rw [hq] at h; cases h)
  · split at h
    · rename_i h6; rw [h] at h6; cases h6
    · split at h
      · rename_i h6; rw [h] at h6; cases h6
      · first | (rw [if_pos hk, hq] at h; cases h) | (rw [hq] at h; cases h)
  · split at h
    · rename_i h6; rw [h] at h6; cases h6
    · split at h
      · rename_i h6; rw [h] at h6; cases h6
      · split at h
        · rename_i h6; rw [h] at h6; cases h6
        · first | (rw [if_pos hk, hq] at h; cases h) | (rw [hq] at h; cases h)
/-- may p be put? -/
def canPut (M : Tb) (p : Pd) : Prop := (1 ≤ p.cl ∧ p.cl ≤ 4) ∧ ∀ o, byK M p.up = some o → o.cl = p.cl
noncomputable instance (M : Tb) (p : Pd) : Decidable (canPut M p) := Classical.propDecidable _
noncomputable def putM (M : Tb) (p : Pd) : Tb × Bool := if canPut M p then (upd M p.cl (some p), true) else (M, false)
def dropM (M : Tb) (c : Int) : Tb × Bool := if (M c).isSome then (upd M c none, true) else (M, false)
def again (p : Pd) (f x : Int) : Pd := { p with ag := p.ag || p.fr != f || p.xi != x, fr := f, xi := x }
def cameM (M : Tb) (c f x : Int) : Tb × Bool := match M c with
  | none => (M, false)
  | some p => (upd M c (some (again p f x)), true)
def laterM (M : Tb) (c d : Int) : Tb × Bool := match M c with
  | none => (M, false)
  | some p => (upd M c (some { p with du := d }), true)
theorem putM_ok {M : Tb} (h : Tok M) {p : Pd} (hp : p.ok) : Tok (putM M p).1 := by
  unfold putM
  by_cases hc : canPut M p
  · rw [if_pos hc]
    dsimp only
    have hno : ∀ j q, j ≠ p.cl → M j = some q → q.up ≠ p.up := fun j q hj hq hu => by
      cases hb : byK M p.up with
      | none => exact by_not hb (h.lim j q hq).1 (h.lim j q hq).2 hq hu
      | some o =>
        obtain ⟨k, h1, h2, h3, h4⟩ := by_some hb
        have e1 := hc.2 o hb
        have e2 := h.me k o h3
        have e3 := h.un j k q o hq h3 (by rw [hu, h4])
        exact hj (by rw [e3, ← e2, e1])
    refine ⟨fun k q hq => ?_, fun k q hq => ?_, fun k q hq => ?_, fun j k q r hj hk hu => ?_⟩
    · by_cases hk : k = p.cl
      · rw [hk]; exact hc.1
      · rw [upd_other _ _ hk] at hq; exact h.lim k q hq
    · by_cases hk : k = p.cl
      · subst hk; rw [upd_same] at hq; cases hq; exact hp
      · rw [upd_other _ _ hk] at hq; exact h.ok k q hq
    · by_cases hk : k = p.cl
      · subst hk; rw [upd_same] at hq; cases hq; rfl
      · rw [upd_other _ _ hk] at hq; exact h.me k q hq
    · by_cases h1 : j = p.cl
      · by_cases h2 : k = p.cl
        · rw [h1, h2]
        · subst h1
          rw [upd_same] at hj
          rw [upd_other _ _ h2] at hk
          cases hj
          exact absurd hu.symm (hno k r h2 hk)
      · by_cases h2 : k = p.cl
        · subst h2
          rw [upd_same] at hk
          rw [upd_other _ _ h1] at hj
          cases hk
          exact absurd hu (hno j q h1 hj)
        · rw [upd_other _ _ h1] at hj
          rw [upd_other _ _ h2] at hk
          exact h.un j k q r hj hk hu
  · rw [if_neg hc]; exact h
theorem del_ok {M : Tb} (h : Tok M) (c : Int) : Tok (upd M c none) := by
  have key : ∀ k q, upd M c none k = some q → M k = some q := fun k q hq => by
    by_cases hk : k = c
    · subst hk; rw [upd_same] at hq; cases hq
    · rwa [upd_other _ _ hk] at hq
  exact ⟨fun k q hq => h.lim k q (key k q hq), fun k q hq => h.ok k q (key k q hq), fun k q hq => h.me k q (key k q hq), fun j k q r hj hk => h.un j k q r (key j q hj) (key k r hk)⟩
theorem dropM_ok {M : Tb} (h : Tok M) (c : Int) : Tok (dropM M c).1 := by
  unfold dropM
  split
  · exact del_ok h c
  · exact h
/-- a call that stays its client's, by its number -/
theorem turn_ok {M : Tb} (h : Tok M) {c : Int} {p q : Pd} (hp : M c = some p) (hq : q.ok) (hc : q.cl = p.cl) (hu : q.up = p.up) : Tok (upd M c (some q)) := by
  have key : ∀ k r, upd M c (some q) k = some r → ∃ s, M k = some s ∧ r.up = s.up ∧ r.cl = s.cl ∧ (r.ok) := fun k r hr => by
    by_cases hk : k = c
    · subst hk; rw [upd_same] at hr; cases hr; exact ⟨p, hp, hu, hc, hq⟩
    · rw [upd_other _ _ hk] at hr; exact ⟨r, hr, rfl, rfl, h.ok k r hr⟩
  refine ⟨fun k r hr => ?_, fun k r hr => ?_, fun k r hr => ?_, fun j k r s hj hk he => ?_⟩
  · obtain ⟨s, h1, _⟩ := key k r hr; exact h.lim k s h1
  · obtain ⟨s, _, _, _, h1⟩ := key k r hr; exact h1
  · obtain ⟨s, h1, _, h2, _⟩ := key k r hr; rw [h2]; exact h.me k s h1
  · obtain ⟨a, h1, h2, _⟩ := key j r hj
    obtain ⟨b, h3, h4, _⟩ := key k s hk
    exact h.un j k a b h1 h3 (by rw [← h2, ← h4, he])
theorem again_ok {p : Pd} (h : p.ok) (f x : Int) : (again p f x).ok := ⟨h.re, h.cl, h.du⟩
theorem due_ok {p : Pd} (h : p.ok) (d : Int) (hd : kok d) : ({ p with du := d } : Pd).ok := ⟨h.re, h.cl, hd⟩
theorem cameM_ok {M : Tb} (h : Tok M) (c f x : Int) : Tok (cameM M c f x).1 := by
  unfold cameM
  cases hm : M c with
  | none => exact h
  | some p => exact turn_ok h hm (again_ok (h.ok _ _ hm) f x) rfl rfl
theorem laterM_ok {M : Tb} (h : Tok M) (c d : Int) (hd : kok d) : Tok (laterM M c d).1 := by
  unfold laterM
  cases hm : M c with
  | none => exact h
  | some p => exact turn_ok h hm (due_ok (h.ok _ _ hm) d hd) rfl rfl
end Go.Proofs.Ytbhiddppohbjhaa
