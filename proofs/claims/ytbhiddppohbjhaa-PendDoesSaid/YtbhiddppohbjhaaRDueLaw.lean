/- posthouseref26.Table.Due: the plain law: each call put in its place. -/
import Derived.Test.YtbhiddppohbjhaaRSame
namespace Go.Proofs.Ytbhiddppohbjhaa
open Go Go.RowKit Go.Maps Go.WideShapes Go.ChangeMaps Go.WideMaps Go.MapKept
set_option maxRecDepth 100000
/-- what is due among the clients ahead of k -/
structure DueTo (M : Tb) (now : Int) (k : Nat) (L : List Pk) : Prop where
  has : ∀ p : Pk, p ∈ L ↔ ∃ j : Nat, 1 ≤ j ∧ j < k ∧ M j = some p.1 ∧ p.1.du ≤ now
  nd : L.Nodup
  srt : Srt L
  few : L.length < k
theorem dueTo_start (M : Tb) (now : Int) : DueTo M now 1 [] :=
  ⟨fun p => ⟨fun hp => absurd hp List.not_mem_nil, by rintro ⟨j, h1, h2, _⟩; omega⟩, List.nodup_nil, List.Pairwise.nil, Nat.zero_lt_one⟩
theorem dueTo_skip {M : Tb} {now : Int} {k : Nat} {L : List Pk} (h : DueTo M now k L) (hk : ∀ p, M k = some p → ¬ p.du ≤ now) : DueTo M now (k + 1) L := by
  refine ⟨fun p => ?_, h.nd, h.srt, by have := h.few; omega⟩
  rw [h.has p]
  constructor
  · rintro ⟨j, h1, h2, h3, h4⟩; exact ⟨j, h1, by omega, h3, h4⟩
  · rintro ⟨j, h1, h2, h3, h4⟩
    rcases Nat.lt_or_ge j k with h5 | h5
    · exact ⟨j, h1, h5, h3, h4⟩
    · obtain rfl : j = k := by omega
      exact absurd h4 (hk _ h3)
/-- the place -/
structure Place (L : List Pk) (p : Pd) (j : Nat) : Prop where
  le : j ≤ L.length
  low : ∀ t (ht : t < L.length), t < j → L[t].1.du ≤ p.du
theorem dueTo_put {M : Tb} {now : Int} {k : Nat} {L : List Pk} (hM : Tok M) (hk1 : 1 ≤ k) (h : DueTo M now k L) {p : Pd} (hp : M k = some p) (hd : p.du ≤ now) {j : Nat} (hj : Place L p j) (hend : ∀ hl : j < L.length, ¬ L[j].1.du ≤ p.du) :
    DueTo M now (k + 1) (L.take j ++ ([⟨p, hM.ok _ _ hp⟩] ++ L.drop j)) := by
  have hcl : p.cl = k := hM.me _ _ hp
  have hmem : ∀ q : Pk, q ∈ L → q.1.cl < k := fun q hq => by
    obtain ⟨i, _, h2, h3, _⟩ := (h.has q).1 hq
    have := hM.me _ _ h3
    omega
  have hnew : (⟨p, hM.ok _ _ hp⟩ : Pk) ∉ L := fun hq => by
    have := hmem _ hq
    have e : ((⟨p, hM.ok _ _ hp⟩ : Pk)).1.cl = k := hcl
    omega
  have hperm : (L.take j ++ ([(⟨p, hM.ok _ _ hp⟩ : Pk)] ++ L.drop j)).Perm (⟨p, hM.ok _ _ hp⟩ :: L) := by
    have h1 : (L.take j ++ ([(⟨p, hM.ok _ _ hp⟩ : Pk)] ++ L.drop j)).Perm ([(⟨p, hM.ok _ _ hp⟩ : Pk)] ++ (L.take j ++ L.drop j)) := by
      rw [← List.append_assoc, ← List.append_assoc]
      exact List.Perm.append_right _ List.perm_append_comm
    rw [List.take_append_drop] at h1
    exact h1
  refine ⟨fun q => ?_, ?_, ?_, ?_⟩
  · rw [hperm.mem_iff, List.mem_cons, h.has q]
    constructor
    · rintro (rfl | ⟨i, h1, h2, h3, h4⟩)
      · exact ⟨k, hk1, by omega, hp, hd⟩
      · exact ⟨i, h1, by omega, h3, h4⟩
    · rintro ⟨i, h1, h2, h3, h4⟩
      rcases Nat.lt_or_ge i k with h5 | h5
      · exact .inr ⟨i, h1, h5, h3, h4⟩
      · obtain rfl : i = k := by omega
        rw [hp] at h3
        exact .inl (Subtype.ext (Option.some.inj h3).symm)
  · rw [hperm.nodup_iff, List.nodup_cons]
    exact ⟨hnew, h.nd⟩
  · have hs := h.srt
    unfold Srt at hs ⊢
    rw [← List.take_append_drop j L, List.pairwise_append] at hs
    rw [List.pairwise_append, List.singleton_append, List.pairwise_cons]
    have hlow : ∀ x ∈ L.take j, x.1.du ≤ p.du := fun x hx => by
      obtain ⟨t, ht, rfl⟩ := List.mem_iff_getElem.1 hx
      rw [List.length_take] at ht
      rw [List.getElem_take]
      exact hj.low t (by omega) (by omega)
    have hhigh : ∀ x ∈ L.drop j, ¬ x.1.du ≤ p.du := fun x hx => by
      have hjl : j < L.length := by
        rcases Nat.lt_or_ge j L.length with h1 | h1
        · exact h1
        · rw [List.drop_eq_nil_of_le h1] at hx; cases hx
      have hd0 : L.drop j = L[j] :: L.drop (j + 1) := List.drop_eq_getElem_cons hjl
      have h2 := hs.2.1
      rw [hd0, List.pairwise_cons] at h2
      rw [hd0] at hx
      have hjn := hend hjl
      rcases List.mem_cons.1 hx with rfl | hx
      · exact hjn
      · have := h2.1 x hx
        unfold Ahead at this
        omega
    refine ⟨hs.1, ⟨fun x hx => ?_, hs.2.1⟩, fun x hx y hy => ?_⟩
    · have := hhigh x hx
      unfold Ahead
      show ¬ (x.1.du < p.du ∨ (x.1.du = p.du ∧ x.1.cl < p.cl))
      omega
    · rcases List.mem_cons.1 hy with rfl | hy
      · have h1 := hlow x hx
        have h2 := hmem x (List.mem_of_mem_take hx)
        unfold Ahead
        show ¬ (p.du < x.1.du ∨ (p.du = x.1.du ∧ p.cl < x.1.cl))
        omega
      · exact hs.2.2 x hx y hy
  · rw [hperm.length_eq, List.length_cons]
    have := h.few
    omega
theorem dueTo_end {M : Tb} {now : Int} {L : List Pk} (hM : Tok M) (h : DueTo M now 5 L) : DueL M now L := by
  refine ⟨fun p => ?_, h.nd, h.srt⟩
  rw [h.has p]
  constructor
  · rintro ⟨j, _, _, h3, h4⟩; exact ⟨j, h3, h4⟩
  · rintro ⟨k, h3, h4⟩
    have hl := hM.lim _ _ h3
    obtain ⟨n, rfl⟩ : ∃ n : Nat, k = n := ⟨k.toNat, by omega⟩
    exact ⟨n, by omega, by omega, h3, h4⟩
/-- s[:j], the spare kept -/
theorem _root_.Go.Proofs.Ytbhiddppohbjhaa.Sl.pre {w : World} {B : Nat} {e : TypeId} {sz n b off cap a : Nat} {xs : List Value} (h : Sl w B e sz (.slice (some ⟨b, off, none⟩) n cap) n xs) (ha : a ≤ n) : Sl w B e sz (.slice (some ⟨b, off, none⟩) a cap) a (xs.take (a * sz)) := by
  have hm : a * sz ≤ n * sz := Nat.mul_le_mul_right _ ha
  refine ⟨by rw [List.length_take, h.1]; omega, ?_⟩
  rcases h.2 with ⟨h0, _⟩ | ⟨b', off', cap', cur, he, hB, hg, h1, h2, h3, hc⟩
  · cases h0
  · cases he
    refine .inr ⟨b, off, cap, cur, rfl, hB, hg, by omega, h2, h3, fun j u hu => ?_⟩
    rw [List.getElem?_take] at hu
    split at hu
    · exact hc j u hu
    · cases hu
theorem cellsP_take (L : List Pk) (k : Nat) : (cellsP L).take (k * 34) = cellsP (L.take k) := by
  induction L generalizing k with
  | nil => simp [cellsP]
  | cons x L ih =>
    cases k with
    | zero => simp [cellsP]
    | succ k =>
      rw [List.take_succ_cons, cellsP_cons, cellsP_cons, List.take_append, encP_len, ← ih, show (k + 1) * 34 - 34 = k * 34 by omega, List.take_of_length_le (by rw [encP_len]; omega)]
theorem cellsP_drop (L : List Pk) (k : Nat) : (cellsP L).drop (k * 34) = cellsP (L.drop k) := by
  induction L generalizing k with
  | nil => simp [cellsP]
  | cons x L ih =>
    cases k with
    | zero => simp
    | succ k =>
      rw [List.drop_succ_cons, cellsP_cons, List.drop_append, encP_len, ← ih, show (k + 1) * 34 - 34 = k * 34 by omega, List.drop_of_length_le (by rw [encP_len]; omega), List.nil_append]
end Go.Proofs.Ytbhiddppohbjhaa
