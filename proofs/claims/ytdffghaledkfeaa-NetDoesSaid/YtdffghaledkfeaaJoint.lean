/- NetDoes, NetOnce: the code's net and the document's in one world. -/
import Derived.Test.YtdffghaledkfeaaLaw
import Derived.Test.YtdffghaledkfeaaLarge
namespace Go.Proofs.Ytdffghaledkfeaa
open Go Go.RowKit
set_option maxRecDepth 100000
structure JS (W w : World) (g mb c : Nat) (v : Value) (V : Int → Value) (r : Nat) (wv cv : Value) (came : Int → List Pk) (y : Rs) : Prop where
  bl : Below W.heap.size W w
  na : NA w W.heap.size g mb c v V ⟨y.way, came⟩
  ra : RefAt w W.heap.size r wv cv y.way y.cl
  ap : ∀ q, Own g mb v V q → ¬ ROwn r wv cv q
  rel : ∀ k, came k = y.cl.filter (toP k)
section
variable {W w : World} {g mb c : Nat} {v : Value} {V : Int → Value} {r : Nat} {wv cv : Value} {came : Int → List Pk} {y : Rs}
theorem JS.below (h : JS W w g mb c v V r wv cv came y) {w' : World} (hb : Below w.heap.size w w') : JS W w' g mb c v V r wv cv came y :=
  ⟨h.bl.trans (hb.mono h.bl.size), h.na.below hb, h.ra.below hb, h.ap, h.rel⟩
/-- the state between the code's step and the document's -/
structure Mid (W w : World) (g mb c : Nat) (v : Value) (V : Int → Value) (r : Nat) (wv cv : Value) (x : Ns) (y : Rs) : Prop where
  bl : Below W.heap.size W w
  na : NA w W.heap.size g mb c v V x
  ra : RefAt w W.heap.size r wv cv y.way y.cl
  ap : ∀ q, Own g mb v V q → ¬ ROwn r wv cv q
theorem Mid.below {x : Ns} (h : Mid W w g mb c v V r wv cv x y) {w' : World} (hb : Below w.heap.size w w') : Mid W w' g mb c v V r wv cv x y :=
  ⟨h.bl.trans (hb.mono h.bl.size), h.na.below hb, h.ra.below hb, h.ap⟩
theorem JS.impl (h : JS W w g mb c v V r wv cv came y) {w' : World} {c' : Nat} {v' : Value} {V' : Int → Value} {x' : Ns} (hT : Turn g mb w w' v v' V V') (hN : NA w' W.heap.size g mb c' v' V' x') : Mid W w' g mb c' v' V' r wv cv x' y := by
  refine ⟨h.bl.trans (hT.below h.na.at_ h.bl.size), hN, h.ra.of fun q hq => hT.keep q (h.ra.own_lt hq) fun e => h.ap q e hq, fun q hq hr => ?_⟩
  rcases hT.own q hq with e | e
  · exact h.ap q e hr
  · have := h.ra.own_lt hr; omega
theorem Mid.ref {x' : Ns} {y' : Rs} (h : Mid W w g mb c v V r wv cv x' y) {w' : World} {wv' cv' : Value} (hT : RTurn r w w' wv wv' cv cv') (hR : RefAt w' W.heap.size r wv' cv' y'.way y'.cl) (hrel : Rel x' y') : JS W w' g mb c v V r wv' cv' x'.came y' := by
  have hown : ∀ q, Own g mb v V q → w'.heap[q]? = w.heap[q]? := fun q hq => hT.keep q (h.na.at_.own_lt hq) fun e => h.ap q hq e
  have hb : Below W.heap.size w w' := ⟨hT.os, hT.tape, hT.output, hT.size, fun q hq => hT.keep q (Nat.lt_of_lt_of_le hq h.bl.size) fun e => by
    rcases e with e | e | e
    · have := h.ra.r0; omega
    · have := h.ra.row.sl.ge q e; omega
    · have := h.ra.crow.sl.ge q e; omega⟩
  have hn := h.na.at_
  refine ⟨h.bl.trans hb, ⟨?_, fun p hp => h.na.ok p (by rw [hrel.way]; exact hp)⟩, hR, fun q hq hr => ?_, hrel.came⟩
  · rw [← hrel.way]
    exact ⟨(hown g (.inl rfl)).trans hn.obj, hn.row.sl.of fun q hq => hown q (.inr (.inr (.inl hq))), hn.map.of (hown mb (.inr (.inl rfl))), fun k => (hn.rows k).sl.of fun q hq => hown q (.inr (.inr (.inr ⟨k, hq⟩))), hn.dv, hn.dd, hn.g0, hn.m0, hn.few, hn.cfew, hn.c0⟩
  · rcases hT.own q hr with e | e
    · exact h.ap q hq e
    · have := h.na.at_.own_lt hq; omega
theorem js_new {w : World} (hb : Below W.heap.size W w) (hN : NetAt w W.heap.size g mb 0 nilS (fun _ => nilS) [] (fun _ => [])) : JS W (w.alloc (.cells #[.slice none 0 0, .slice none 0 0] 32)) g mb 0 nilS (fun _ => nilS) w.heap.size nilS nilS (fun _ => []) ⟨[], []⟩ := by
  have hal : Below w.heap.size w (w.alloc (.cells #[.slice none 0 0, .slice none 0 0] 32)) := by go_grown
  refine ⟨hb.trans (hal.mono hb.size), ⟨hN.below hal, by simp⟩, ⟨heap_alloc_new w _, Sl.nil _ _ _ _, Sl.nil _ _ _ _, disj_nil _, hb.size, by simp, by simp⟩, fun q hq hr => ?_, fun k => rfl⟩
  rcases hr with e | e | e
  · have := hN.own_lt hq; omega
  · cases e
  · cases e
/-- a packet's object -/
theorem pk_keep {w w' : World} {q : Nat} {p : Pk} {B : Nat} (h : w.heap[q]? = some (pkObj p)) (hb : Below B w w') (hq : q < B) : w'.heap[q]? = some (pkObj p) := (hb.block q hq).trans h
/-- what the comparison reads -/
structure Cmp (W w : World) (g mb c : Nat) (v : Value) (V : Int → Value) (r : Nat) (wv cv : Value) (came : Int → List Pk) (y : Rs) (q8 q11 : Nat) (p : Pk) : Prop where
  js : JS W w g mb c v V r wv cv came y
  o8 : w.heap[q8]? = some (pkObj p)
  o11 : w.heap[q11]? = some (pkObj p)
theorem Cmp.below {q8 q11 : Nat} {p : Pk} (h : Cmp W w g mb c v V r wv cv came y q8 q11 p) {w' : World} (hb : Below w.heap.size w w') : Cmp W w' g mb c v V r wv cv came y q8 q11 p :=
  ⟨h.js.below hb, pk_keep h.o8 hb (heap_lt h.o8), pk_keep h.o11 hb (heap_lt h.o11)⟩
theorem Cmp.cells {q8 q11 : Nat} {p : Pk} (h : Cmp W w g mb c v V r wv cv came y q8 q11 p) : w.cell? ⟨q8, 0, none⟩ = some (.int .i64 p.f) ∧ w.cell? ⟨q8, 1, none⟩ = some (.int .i64 p.t) ∧ w.cell? ⟨q8, 2, none⟩ = some (.string p.d) ∧
    w.cell? ⟨q11, 0, none⟩ = some (.int .i64 p.f) ∧ w.cell? ⟨q11, 1, none⟩ = some (.int .i64 p.t) ∧ w.cell? ⟨q11, 2, none⟩ = some (.string p.d) ∧ w.cell? ⟨r, 0, none⟩ = some wv := by
  obtain ⟨a0, a1, a2⟩ := cell_of_pk h.o8
  obtain ⟨b0, b1, b2⟩ := cell_of_pk h.o11
  exact ⟨a0, a1, a2, b0, b1, b2, h.js.ra.cc0⟩
theorem Cmp.way {q8 q11 : Nat} {p : Pk} (h : Cmp W w g mb c v V r wv cv came y q8 q11 p) : Calls Try.prog 12 #[.pointer (some ⟨g, 0, none⟩)] w (CloneV y.way w) := way_any h.js.na.at_
theorem Cmp.cam {q8 q11 : Nat} {p : Pk} (h : Cmp W w g mb c v V r wv cv came y q8 q11 p) {k : Int} (hk : kok k) : Calls Try.prog 18 #[.pointer (some ⟨g, 0, none⟩), .int .i64 k] w (CloneV (y.cl.filter (toP k)) w) := by
  have := came_any h.js.na.at_ hk
  rw [show (⟨y.way, came⟩ : Ns).came k = y.cl.filter (toP k) from h.js.rel k] at this
  exact this
theorem Cmp.to {q8 q11 : Nat} {p : Pk} (h : Cmp W w g mb c v V r wv cv came y q8 q11 p) (k : Int) : Calls Try.prog 19 #[.pointer (some ⟨r, 0, none⟩), .int .i64 k] w (CloneV (y.cl.filter (toP k)) w) := to_any h.js.ra k
end
end Go.Proofs.Ytdffghaledkfeaa
