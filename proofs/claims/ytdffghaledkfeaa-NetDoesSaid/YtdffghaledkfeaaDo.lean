/- posthouselaw25.do. -/
import Derived.Test.YtdffghaledkfeaaDeliv
namespace Go.Proofs.Ytdffghaledkfeaa
open Go Go.RowKit Go.Maps Go.WideShapes Go.ChangeMaps Go.WideMaps Go.MapKept
set_option maxRecDepth 100000
structure Stp where
  k : Int
  i : Int
  p : Pk
def zpk : Pk := ⟨0, 0, ⟨#[]⟩⟩
/-- what a net is -/
structure Ns where
  way : List Pk
  came : Int → List Pk
def Ns.there (x : Ns) (i : Int) : Prop := 0 ≤ i ∧ i < x.way.length
instance (x : Ns) (i : Int) : Decidable (x.there i) := by unfold Ns.there; infer_instance
def Ns.at (x : Ns) (i : Int) : Pk := x.way.getD i.toNat zpk
structure Did where
  x : Ns
  p : Pk
  n : Int
  b : Bool
def Ns.no (x : Ns) : Did := ⟨x, zpk, 0, false⟩
def Ns.send (x : Ns) (p : Pk) : Did := if May x.way p then ⟨⟨x.way ++ [p], x.came⟩, zpk, 0, true⟩ else x.no
def Ns.deliver (x : Ns) (i : Int) : Did := if x.there i ∧ (x.came (x.at i).t).length < 64 then ⟨⟨out x.way i.toNat, upd x.came (x.at i).t (x.came (x.at i).t ++ [x.at i])⟩, zpk, 0, true⟩ else x.no
def Ns.drop (x : Ns) (i : Int) : Did := if x.there i then ⟨⟨out x.way i.toNat, x.came⟩, zpk, 0, true⟩ else x.no
def Ns.twice (x : Ns) (i : Int) : Did := if x.there i then x.send (x.at i) else x.no
def Ns.next (x : Ns) (i : Int) : Did := match x.came i with
  | [] => x.no
  | p :: r => ⟨⟨x.way, upd x.came i r⟩, p, 0, true⟩
def Ns.clear (x : Ns) (i : Int) : Did := if 0 < (x.came i).length then ⟨⟨x.way, upd x.came i []⟩, zpk, (x.came i).length, true⟩ else x.no
def Ns.step (x : Ns) (s : Stp) : Did := if s.k = 1 then x.send s.p else if s.k = 2 then x.deliver s.i else if s.k = 3 then x.drop s.i else if s.k = 4 then x.twice s.i else if s.k = 5 then x.next s.i else if s.k = 6 then x.clear s.i else x.no

/-- a net in a world -/
structure NA (w : World) (B g mb c : Nat) (v : Value) (V : Int → Value) (x : Ns) : Prop where
  at_ : NetAt w B g mb c v V x.way x.came
  ok : ∀ p ∈ x.way, kok p.t
def GotV (B g mb c : Nat) (v : Value) (V : Int → Value) (d : Did) (w : World) (e : Ending) (w' : World) : Prop :=
  e = .returned (.bool d.b) ∧ ∃ c' v' V', c' ≤ c + 1 ∧ Turn g mb w w' v v' V V' ∧ NA w' B g mb c' v' V' d.x
section
variable {w : World} {B g mb c : Nat} {v : Value} {V : Int → Value} {x : Ns}
theorem NetAt.own_lt {way : List Pk} {came : Int → List Pk} (h : NetAt w B g mb c v V way came) {q : Nat} (hq : Own g mb v V q) : q < w.heap.size := by
  rcases hq with rfl | rfl | hq | ⟨k, hq⟩
  · exact h.glt
  · exact h.map.lt
  · exact h.row.sl.lt _ hq
  · exact (h.rows k).sl.lt _ hq
theorem NA.below (h : NA w B g mb c v V x) {w' : World} (hb : Below w.heap.size w w') : NA w' B g mb c v V x := ⟨h.at_.below hb, h.ok⟩
theorem NA.stay (h : NA w B g mb c v V x) {w' : World} (hb : Below w.heap.size w w') : GotV B g mb c v V x.no w (.returned (.bool false)) w' :=
  ⟨rfl, c, v, V, Nat.le_succ _, Turn.of_below hb, h.below hb⟩
theorem kok_of {t : Int} (h : 0 ≤ t ∧ t ≤ 63) : kok t := by
  unfold kok
  simp only [Lit.wf, Bool.and_eq_true, decide_eq_true_eq]
  exact ⟨Int.le_trans (by decide) h.1, Int.le_trans h.2 (by decide)⟩
theorem send_na (h : NA w B g mb c v V x) (hB : B ≤ w.heap.size) (p : Pk) :
    Calls Try.prog 9 #[.pointer (some ⟨g, 0, none⟩), .agg #[.int .i64 p.f, .int .i64 p.t, .string p.d]] w (GotV B g mb c v V (x.send p) w) := by
  refine (send_any h.at_ hB p).mono ?_
  rintro e w' ⟨v', rfl, hT, hN⟩
  unfold Ns.send
  by_cases hm : May x.way p
  · rw [if_pos hm] at hN
    rw [if_pos hm, decide_eq_true hm]
    refine ⟨rfl, c, v', V, Nat.le_succ _, hT, hN, fun q hq => ?_⟩
    rcases List.mem_append.1 hq with h1 | h1
    · exact h.ok q h1
    · rw [List.mem_singleton] at h1; subst h1; exact kok_of hm.2.2.1
  · rw [if_neg hm] at hN
    rw [if_neg hm, decide_eq_false hm]
    exact ⟨rfl, c, v', V, Nat.le_succ _, hT, hN, h.ok⟩
theorem there_nat {i : Int} (h : x.there i) : ∃ k : Nat, i = k ∧ ∃ hk : k < x.way.length, x.at i = x.way[k] ∧ i.toNat = k := by
  refine ⟨i.toNat, by have := h.1; omega, by have := h.1; have := h.2; omega, ?_, rfl⟩
  unfold Ns.at
  rw [List.getD_eq_getElem?_getD, List.getElem?_eq_getElem (by have := h.1; have := h.2; omega)]
  rfl
theorem twice_na (h : NA w B g mb c v V x) (hB : B ≤ w.heap.size) (i : Int) :
    Calls Try.prog 27 #[.pointer (some ⟨g, 0, none⟩), .int .i64 i] w (GotV B g mb c v V (x.twice i) w) := by
  unfold Ns.twice
  by_cases ht : x.there i
  · rw [if_pos ht]
    obtain ⟨k, rfl, hk, he, _⟩ := there_nat ht
    rw [he]
    refine (twice_yes h.at_ hB k hk).mono ?_
    rintro e w' ⟨v', rfl, hT, hN⟩
    unfold Ns.send
    by_cases hm : May x.way x.way[k]
    · rw [if_pos hm] at hN
      rw [if_pos hm, decide_eq_true hm]
      refine ⟨rfl, c, v', V, Nat.le_succ _, hT, hN, fun q hq => ?_⟩
      rcases List.mem_append.1 hq with h1 | h1
      · exact h.ok q h1
      · rw [List.mem_singleton] at h1; subst h1; exact kok_of hm.2.2.1
    · rw [if_neg hm] at hN
      rw [if_neg hm, decide_eq_false hm]
      exact ⟨rfl, c, v', V, Nat.le_succ _, hT, hN, h.ok⟩
  · rw [if_neg ht]
    refine (twice_no h.at_ i ht).mono ?_
    rintro e w' ⟨rfl, rfl⟩
    exact h.stay (Below.refl _ _)
theorem out_mem {α : Type} {L : List α} {i : Nat} {a : α} (h : a ∈ out L i) : a ∈ L := by
  unfold out at h
  rcases List.mem_append.1 h with h | h
  · exact List.mem_of_mem_take h
  · exact List.mem_of_mem_drop h
theorem drop_na (h : NA w B g mb c v V x) (i : Int) :
    Calls Try.prog 25 #[.pointer (some ⟨g, 0, none⟩), .int .i64 i] w (GotV B g mb c v V (x.drop i) w) := by
  unfold Ns.drop
  by_cases ht : x.there i
  · rw [if_pos ht]
    obtain ⟨k, rfl, hk, _, he⟩ := there_nat ht
    rw [he]
    refine (drop_yes h.at_ k hk).mono ?_
    rintro e w' ⟨v', rfl, hT, hN⟩
    exact ⟨rfl, c, v', V, Nat.le_succ _, hT, hN, fun q hq => h.ok q (out_mem hq)⟩
  · rw [if_neg ht]
    refine (drop_no h.at_ i ht).mono ?_
    rintro e w' ⟨rfl, rfl⟩
    exact h.stay (Below.refl _ _)
theorem deliver_na (h : NA w B g mb c v V x) (hB : B ≤ w.heap.size) (i : Int) (hc : c + 1 ≤ 1000000) :
    Calls Try.prog 11 #[.pointer (some ⟨g, 0, none⟩), .int .i64 i] w (GotV B g mb c v V (x.deliver i) w) := by
  unfold Ns.deliver
  by_cases ht : x.there i
  · obtain ⟨k, rfl, hk, he, he2⟩ := there_nat ht
    have hok := h.ok _ (List.getElem_mem hk)
    rw [he, he2]
    by_cases hf : (x.came x.way[k].t).length < 64
    · rw [if_pos ⟨ht, hf⟩]
      refine (deliver_yes h.at_ hB k hk hok hf hc).mono ?_
      rintro e w' ⟨v', u, rfl, hT, hN⟩
      exact ⟨rfl, c + 1, v', _, Nat.le_refl _, hT, hN, fun q hq => h.ok q (out_mem hq)⟩
    · rw [if_neg fun e => hf e.2]
      refine (deliver_full h.at_ k hk hok hf).mono ?_
      rintro e w' ⟨rfl, hb⟩
      exact h.stay hb
  · rw [if_neg fun e => ht e.1]
    refine (deliver_no h.at_ i ht).mono ?_
    rintro e w' ⟨rfl, rfl⟩
    exact h.stay (Below.refl _ _)
def NextV (B g mb c : Nat) (v : Value) (V : Int → Value) (d : Did) (w : World) (e : Ending) (w' : World) : Prop :=
  e = .returned (.tuple #[.agg #[.int .i64 d.p.f, .int .i64 d.p.t, .string d.p.d], .bool d.b]) ∧ ∃ c' v' V', c' ≤ c + 1 ∧ Turn g mb w w' v v' V V' ∧ NA w' B g mb c' v' V' d.x
theorem next_na (h : NA w B g mb c v V x) {i : Int} (hi : kok i) (hc : c + 1 ≤ 1000000) :
    Calls Try.prog 16 #[.pointer (some ⟨g, 0, none⟩), .int .i64 i] w (NextV B g mb c v V (x.next i) w) := by
  unfold Ns.next
  cases hr : x.came i with
  | nil =>
    refine (next_none h.at_ hi (by rw [hr]; rfl)).mono ?_
    rintro e w' ⟨rfl, hb⟩
    exact ⟨rfl, c, v, V, Nat.le_succ _, Turn.of_below hb, h.below hb⟩
  | cons p r =>
    refine (next_some h.at_ hi hr hc).mono ?_
    rintro e w' ⟨u, rfl, hT, hN⟩
    exact ⟨rfl, c + 1, v, _, Nat.le_refl _, hT, hN, h.ok⟩
def ClearV (B g mb c : Nat) (v : Value) (V : Int → Value) (d : Did) (w : World) (e : Ending) (w' : World) : Prop :=
  e = .returned (.int .i64 d.n) ∧ ∃ c' v' V', c' ≤ c + 1 ∧ Turn g mb w w' v v' V V' ∧ NA w' B g mb c' v' V' d.x
theorem clear_na (h : NA w B g mb c v V x) {i : Int} (hi : kok i) (hc : c + 1 ≤ 1000000) :
    Calls Try.prog 13 #[.pointer (some ⟨g, 0, none⟩), .int .i64 i] w (ClearV B g mb c v V (x.clear i) w) := by
  unfold Ns.clear
  by_cases h0 : 0 < (x.came i).length
  · rw [if_pos h0]
    refine (clear_some h.at_ hi h0 hc).mono ?_
    rintro e w' ⟨rfl, hT, hN⟩
    exact ⟨rfl, c + 1, v, _, Nat.le_refl _, hT, hN, h.ok⟩
  · rw [if_neg h0]
    refine (clear_none h.at_ hi (by omega)).mono ?_
    rintro e w' ⟨rfl, rfl⟩
    exact ⟨rfl, c, v, V, Nat.le_succ _, Turn.refl _ _ _ _ _, h⟩
end
end Go.Proofs.Ytdffghaledkfeaa
