/- posthouseref25.Net.Do: what it does; the frame. -/
import Derived.Test.YtdffghaledkfeaaRefSend
import Derived.Test.YtdffghaledkfeaaDoWalk
namespace Go.Proofs.Ytdffghaledkfeaa
open Go Go.RowKit
set_option maxRecDepth 100000
structure Rs where
  way : List Pk
  cl : List Pk
def Rs.there (x : Rs) (i : Int) : Prop := 0 ≤ i ∧ i < x.way.length
instance (x : Rs) (i : Int) : Decidable (x.there i) := by unfold Rs.there; infer_instance
def Rs.at (x : Rs) (i : Int) : Pk := x.way.getD i.toNat zpk
structure RDid where
  x : Rs
  p : Pk
  n : Int
  b : Bool
def Rs.no (x : Rs) : RDid := ⟨x, zpk, 0, false⟩
def Rs.send (x : Rs) (p : Pk) : RDid := ⟨⟨if May x.way p then x.way ++ [p] else x.way, x.cl⟩, zpk, 0, decide (May x.way p)⟩
def Rs.deliver (x : Rs) (i : Int) : RDid := if x.there i ∧ (x.cl.filter (toP (x.at i).t)).length < 64 then ⟨⟨out x.way i.toNat, x.cl ++ [x.at i]⟩, zpk, 0, true⟩ else x.no
def Rs.drop (x : Rs) (i : Int) : RDid := if x.there i then ⟨⟨out x.way i.toNat, x.cl⟩, zpk, 0, true⟩ else x.no
def Rs.twice (x : Rs) (i : Int) : RDid := if x.there i then x.send (x.at i) else x.no
def Rs.next (x : Rs) (i : Int) : RDid := match nextR x.cl i with
  | none => x.no
  | some (p, l) => ⟨⟨x.way, l⟩, p, 0, true⟩
def nextL (cl : List Pk) (i : Int) : List Pk := match nextR cl i with
  | none => cl
  | some (_, l) => l
def nextN : Nat → List Pk → Int → List Pk
  | 0, cl, _ => cl
  | n + 1, cl, i => nextL (nextN n cl i) i
def Rs.clear (x : Rs) (i : Int) : RDid := ⟨⟨x.way, nextN (x.cl.filter (toP i)).length x.cl i⟩, zpk, (x.cl.filter (toP i)).length, decide (0 < (x.cl.filter (toP i)).length)⟩
def Rs.step (x : Rs) (s : Stp) : RDid := if s.k = 1 then x.send s.p else if s.k = 2 then x.deliver s.i else if s.k = 3 then x.drop s.i else if s.k = 4 then x.twice s.i else if s.k = 5 then x.next s.i else if s.k = 6 then x.clear s.i else x.no
section
variable {w : World} {B r : Nat} {wv cv : Value} {x : Rs}
def RGot (B r : Nat) (wv cv : Value) (x : Rs) (w w' : World) : Prop := ∃ wv' cv', RTurn r w w' wv wv' cv cv' ∧ RefAt w' B r wv' cv' x.way x.cl
def RDoV (B r : Nat) (wv cv : Value) (d : RDid) (w : World) (e : Ending) (w' : World) : Prop :=
  e = .returned (.tuple #[.agg #[.int .i64 d.p.f, .int .i64 d.p.t, .string d.p.d], .int .i64 d.n, .bool d.b]) ∧ RGot B r wv cv d.x w w'
/-- what stands behind the inner call of a step -/
structure RAft (B r : Nat) (wv cv : Value) (w w2 : World) (s : Stp) (x' : Rs) : Prop where
  h0 : w2.heap[w.heap.size]? = some (stpObj s)
  h1 : w2.heap[w.heap.size + 1]? = some zObj
  h2 : w2.heap[w.heap.size + 2]? = some zObj
  got : RGot B r wv cv x' w w2
  fin : ∀ a b d, RGot B r wv cv x' w (((w2.setCell ⟨w.heap.size + 1, 0, none⟩ a).setCell ⟨w.heap.size + 1, 1, none⟩ b).setCell ⟨w.heap.size + 1, 2, none⟩ d)
theorem raft {W w2 : World} {s : Stp} {x' : Rs} (h : RefAt w B r wv cv x.way x.cl) (hi : Ins w W s) (hh : RGot B r wv cv x' W w2) : RAft B r wv cv w w2 s x' := by
  obtain ⟨wv', cv', hT, hN⟩ := hh
  have hs3 : w.heap.size + 3 ≤ W.heap.size := by
    have := heap_lt hi.c2; omega
  have k1 : RTurn r w w2 wv wv' cv cv' := (RTurn.of_below hi.bl).trans hT
  have k2 : ∀ q, w.heap.size ≤ q → q < w.heap.size + 3 → w2.heap[q]? = W.heap[q]? ∧ ¬ ROwn r wv' cv' q := by
    intro q h1 h2
    refine ⟨hT.keep q (by omega) fun e => ?_, fun e => ?_⟩
    · have := h.own_lt e; omega
    · rcases hT.own q e with e | e
      · have := h.own_lt e; omega
      · omega
  have k3 := (k2 (w.heap.size + 1) (by omega) (by omega)).2
  exact ⟨(k2 _ (by omega) (by omega)).1.trans hi.c0, (k2 _ (by omega) (by omega)).1.trans hi.c1, (k2 _ (by omega) (by omega)).1.trans hi.c2, ⟨wv', cv', k1, hN⟩, fun a b d => ⟨wv', cv', ((k1.far (by omega) _ _).far (by omega) _ _).far (by omega) _ _, ((hN.far k3 _ _).far k3 _ _).far k3 _ _⟩⟩
theorem RGot.below {x' : Rs} {w1 w2 : World} (h : RGot B r wv cv x' w w1) (hb : Below w1.heap.size w1 w2) : RGot B r wv cv x' w w2 := by
  obtain ⟨wv', cv', hT, hN⟩ := h
  exact ⟨wv', cv', hT.trans (RTurn.of_below hb), hN.below hb⟩
theorem RGot.self (h : RefAt w B r wv cv x.way x.cl) {w2 : World} (hb : Below w.heap.size w w2) : RGot B r wv cv x w w2 := ⟨wv, cv, RTurn.of_below hb, h.below hb⟩
theorem rthere_nat {i : Int} (h : x.there i) : ∃ k : Nat, i = k ∧ ∃ hk : k < x.way.length, x.at i = x.way[k] ∧ i.toNat = k := by
  refine ⟨i.toNat, by have := h.1; omega, by have := h.1; have := h.2; omega, ?_, rfl⟩
  unfold Rs.at
  rw [List.getD_eq_getElem?_getD, List.getElem?_eq_getElem (by have := h.1; have := h.2; omega)]
  rfl
theorem three_ways (i : Int) (n : Nat) : (0 ≤ i ∧ i < (n : Int)) ∨ ¬ 0 ≤ i ∨ (0 ≤ i ∧ ¬ i < (n : Int)) := by omega
theorem rsend_got (h : RefAt w B r wv cv x.way x.cl) (hB : B ≤ w.heap.size) (p : Pk) :
    Calls Try.prog 21 #[.pointer (some ⟨r, 0, none⟩), .agg #[.int .i64 p.f, .int .i64 p.t, .string p.d]] w fun e w' => e = .returned (.bool (x.send p).b) ∧ RGot B r wv cv (x.send p).x w w' := by
  refine (rsend_any h hB p).mono ?_
  rintro e w' ⟨rfl, wv', hT, hN⟩
  exact ⟨rfl, wv', cv, hT, hN⟩
end
end Go.Proofs.Ytdffghaledkfeaa
