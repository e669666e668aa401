/- net.Net: packets in rows, a map of rows; what it holds. -/
import Derived.Test.YtdffghaledkfeaaProg
import Derived.Test.YtdffghaledkfeaaSlice
import Derived.Handy
import Derived.Lib.Hide
import Derived.Maps.OwnSet
import Derived.WalkSpells
import Derived.Deep.RegionLaw
import Derived.Lib.SliceRun
namespace Go.Proofs.Ytdffghaledkfeaa
open Go Go.RowKit Go.Maps Go.WideShapes Go.ChangeMaps Go.WideMaps Go.MapKept

/-- a packet -/
structure Pk where
  f : Int
  t : Int
  d : ByteArray
def Pk.row (p : Pk) : List Value := [.int .i64 p.f, .int .i64 p.t, .string p.d]
def cells3 (L : List Pk) : List Value := L.flatMap Pk.row
theorem cells3_cons (p : Pk) (L : List Pk) : cells3 (p :: L) = .int .i64 p.f :: .int .i64 p.t :: .string p.d :: cells3 L := rfl
theorem cells3_append (L M : List Pk) : cells3 (L ++ M) = cells3 L ++ cells3 M := by simp [cells3]
theorem cells3_len (L : List Pk) : (cells3 L).length = L.length * 3 := by
  induction L with
  | nil => rfl
  | cons p L ih => rw [cells3_cons]; simp only [List.length_cons]; omega
theorem cells3_one (L : List Pk) : ∀ u ∈ cells3 L, u.oneCell' = true := by
  intro u hu
  obtain ⟨x, _, hx⟩ := List.mem_flatMap.1 hu
  simp [Pk.row] at hx
  rcases hx with rfl | rfl | rfl <;> rfl
theorem cells3_at {L : List Pk} : ∀ {k : Nat} (h : k < L.length), (cells3 L)[k * 3]? = some (.int .i64 L[k].f) ∧ (cells3 L)[k * 3 + 1]? = some (.int .i64 L[k].t) ∧ (cells3 L)[k * 3 + 2]? = some (.string L[k].d) := by
  induction L with
  | nil => intro k h; exact absurd h (Nat.not_lt_zero _)
  | cons x L ih =>
    intro k h
    rw [cells3_cons]
    cases k with
    | zero => exact ⟨rfl, rfl, rfl⟩
    | succ k =>
      obtain ⟨h1, h2, h3⟩ := ih (k := k) (by simpa using h)
      rw [show (k + 1) * 3 = k * 3 + 1 + 1 + 1 by omega]
      exact ⟨by simpa using h1, by simpa using h2, by simpa using h3⟩
theorem cells3_take (L : List Pk) (k : Nat) : (cells3 L).take (k * 3) = cells3 (L.take k) := by
  induction L generalizing k with
  | nil => simp [cells3]
  | cons x L ih =>
    cases k with
    | zero => simp [cells3]
    | succ k => rw [show (k + 1) * 3 = k * 3 + 1 + 1 + 1 by omega, List.take_succ_cons, cells3_cons, cells3_cons, List.take_succ_cons, List.take_succ_cons, List.take_succ_cons, ih]
theorem cells3_drop (L : List Pk) (k : Nat) : (cells3 L).drop (k * 3) = cells3 (L.drop k) := by
  induction L generalizing k with
  | nil => simp [cells3]
  | cons x L ih =>
    cases k with
    | zero => simp
    | succ k => rw [show (k + 1) * 3 = k * 3 + 1 + 1 + 1 by omega, List.drop_succ_cons, cells3_cons, List.drop_succ_cons, List.drop_succ_cons, List.drop_succ_cons, ih]

/-- a row of packets -/
def Rw (w : World) (B : Nat) (v : Value) (L : List Pk) : Prop := Sl w B 23 3 v L.length (cells3 L)
theorem Rw.sl {w : World} {B : Nat} {v : Value} {L : List Pk} (h : Rw w B v L) : Sl w B 23 3 v L.length (cells3 L) := h
theorem Rw.pk {w : World} {B b off cap : Nat} {L : List Pk} (h : Rw w B (.slice (some ⟨b, off, none⟩) L.length cap) L) {k : Nat} (hk : k < L.length) :
    w.cell? ⟨b, off + k * 3, none⟩ = some (.int .i64 L[k].f) ∧ w.cell? ⟨b, off + k * 3 + 1, none⟩ = some (.int .i64 L[k].t) ∧ w.cell? ⟨b, off + k * 3 + 2, none⟩ = some (.string L[k].d) := by
  obtain ⟨h1, h2, h3⟩ := cells3_at hk
  exact ⟨h.sl.cell h1, by rw [Nat.add_assoc]; exact h.sl.cell h2, by rw [Nat.add_assoc]; exact h.sl.cell h3⟩
theorem info23 : (Try.prog.info? 23).map (fun i => (i.zero, i.size, i.bytes)) = some (some (.agg #[.int .i64 0, .int .i64 0, .string ⟨#[]⟩]), 3, 32) := by kernel_rfl

def disj (v u : Value) : Prop := ∀ q, v.ownBlock = some q → u.ownBlock ≠ some q
theorem disj.symm {v u : Value} (h : disj v u) : disj u v := fun q hq hv => h q hv hq
theorem disj_nil (u : Value) : disj (.slice none 0 0) u := by intro q hq; cases hq
theorem nil_disj (u : Value) : disj u (.slice none 0 0) := (disj_nil u).symm

/-- a map's element reads as itself -/
def heldR : Value → Option (DataW Value × List MemPlace) := fun v => some (.held v, [])
def nilS : Value := .slice none 0 0
theorem law3 : Keyed Try.prog 3 := int_keyed Try.underlying3
theorem zero30 (w : World) : (zeroValue 30).run Try.prog w = .ok (.slice none 0 0) w := by kernel_rfl
def kl (k : Int) : Lit := .int .i64 k
def kok (k : Int) : Prop := (Lit.int .i64 k).wf = true
theorem key_of {k : Int} (h : kok k) : keyOf Try.prog 3 (.int .i64 k) = some (kl k) := keyOf_int_mk Try.underlying3 h
theorem key_lit (k : Int) : WideAt.IsKeyLit (kl k) := by trivial
theorem kl_inj {a b : Int} (h : kl a = kl b) : a = b := by unfold kl at h; cases h; rfl

def upd {α : Type} (V : Int → α) (k : Int) (v : α) : Int → α := fun j => if j = k then v else V j
theorem upd_same {α : Type} (V : Int → α) (k : Int) (v : α) : upd V k v k = v := if_pos rfl
theorem upd_other {α : Type} (V : Int → α) {k j : Int} (v : α) (h : ¬ j = k) : upd V k v j = V j := if_neg h
/-- the map at block mb holds the slices V -/
def MapAt (w : World) (mb c : Nat) (V : Int → Value) : Prop := ∃ (D : DataW Value) (n : Nat), w.ownsMap Try.prog 3 heldR mb n D ∧ n ≤ c ∧ ∀ k, D.atKey (kl k) (.held nilS) = .held (V k)
theorem MapAt.of {w w' : World} {mb c : Nat} {V : Int → Value} (h : MapAt w mb c V) (hb : w'.heap[mb]? = w.heap[mb]?) : MapAt w' mb c V := by
  obtain ⟨D, n, ⟨es, ck, hh, r⟩, hn, hD⟩ := h
  exact ⟨D, n, ⟨es, ck, hb.trans hh, r⟩, hn, hD⟩
theorem MapAt.lt {w : World} {mb c : Nat} {V : Int → Value} (h : MapAt w mb c V) : mb < w.heap.size := by
  obtain ⟨D, n, hh, _⟩ := h
  exact hh.lt
theorem MapAt.blk {w : World} {mb c : Nat} {V : Int → Value} (h : MapAt w mb c V) : ∃ es ck, w.heap[mb]? = some (.map es ck) := by
  obtain ⟨D, n, ⟨es, ck, hh, _⟩, _⟩ := h
  exact ⟨es, ck, hh⟩
/-- m[k] -/
theorem MapAt.look {w : World} {mb c : Nat} {V : Int → Value} (h : MapAt w mb c V) {k : Int} (hk : kok k) : (Instr.lookup 49 (.map (some mb)) (.int .i64 k) false).run Try.prog w = .ok (V k) w := by
  obtain ⟨D, n, hown, _, hD⟩ := h
  obtain ⟨v, ps, hrun, hv⟩ := hown.lookup law3 Try.underlying49 (zero30 w) (zd := .held nilS) (zp := []) rfl (key_of hk)
  rw [hD] at hv
  have : v = V k := by
    simp only [heldR, Option.some.injEq, Prod.mk.injEq, DataW.held.injEq] at hv
    exact hv.1
  rw [hrun, this]
/-- m[k] = v -/
theorem MapAt.put {w : World} {mb c : Nat} {V : Int → Value} (h : MapAt w mb c V) {k : Int} (hk : kok k) (hc : c < maxLen) (v : Value) :
    ∃ w', (Instr.mapUpdate 49 (.map (some mb)) (.int .i64 k) v).run Try.prog w = .ok () w' ∧ MapAt w' mb (c + 1) (upd V k v) ∧ w.grownBy w' (some mb) := by
  obtain ⟨D, n, hown, hn, hD⟩ := h
  obtain ⟨w', hrun, hown', hturn⟩ := hown.store law3 Try.underlying49 (by omega) (val := v) (key_of hk) (d := .held v) (ps := []) rfl
  refine ⟨w', hrun, ⟨D.put (kl k) (.held v), n + 1, hown', by omega, fun j => ?_⟩, hturn.grown⟩
  by_cases hj : j = k
  · subst hj
    rw [upd_same, atKey_put_same hown.isMap (key_lit _)]
  · rw [upd_other _ _ hj, atKey_put_other (fun e => hj (kl_inj e)), hD]

/-- the net: its object at block g, its map at block mb, the slice v under way, the slices V that came -/
structure NetAt (w : World) (B g mb c : Nat) (v : Value) (V : Int → Value) (way : List Pk) (came : Int → List Pk) : Prop where
  obj : w.heap[g]? = some (.cells #[v, .map (some mb)] 51)
  row : Rw w B v way
  map : MapAt w mb c V
  rows : ∀ k, Rw w B (V k) (came k)
  dv : ∀ k, disj v (V k)
  dd : ∀ j k, j ≠ k → disj (V j) (V k)
  g0 : B ≤ g
  m0 : B ≤ mb
  few : way.length ≤ 512
  cfew : ∀ k, (came k).length ≤ 64
  c0 : c ≤ 1000000
section
variable {w : World} {B g mb c : Nat} {v : Value} {V : Int → Value} {way : List Pk} {came : Int → List Pk}
theorem NetAt.cc0 (h : NetAt w B g mb c v V way came) : w.cell? ⟨g, 0, none⟩ = some v := by rw [row_cell h.obj]; rfl
theorem NetAt.cc1 (h : NetAt w B g mb c v V way came) : w.cell? ⟨g, 1, none⟩ = some (.map (some mb)) := by rw [row_cell h.obj]; rfl
theorem NetAt.ff (h : NetAt w B g mb c v V way came) (o : Nat) : w.frozen? ⟨g, o, none⟩ = false := row_froz h.obj o
theorem NetAt.gm (h : NetAt w B g mb c v V way came) : g ≠ mb := by
  obtain ⟨es, ck, hb⟩ := h.map.blk
  rintro rfl
  rw [h.obj] at hb; cases hb
theorem NetAt.gv (h : NetAt w B g mb c v V way came) : v.ownBlock ≠ some g := h.row.sl.off h.obj (by decide)
theorem NetAt.gV (h : NetAt w B g mb c v V way came) (k : Int) : (V k).ownBlock ≠ some g := (h.rows k).sl.off h.obj (by decide)
theorem NetAt.mv (h : NetAt w B g mb c v V way came) : v.ownBlock ≠ some mb := by
  obtain ⟨es, ck, hb⟩ := h.map.blk
  exact h.row.sl.offMap hb
theorem NetAt.mV (h : NetAt w B g mb c v V way came) (k : Int) : (V k).ownBlock ≠ some mb := by
  obtain ⟨es, ck, hb⟩ := h.map.blk
  exact (h.rows k).sl.offMap hb
theorem NetAt.glt (h : NetAt w B g mb c v V way came) : g < w.heap.size := heap_lt h.obj
theorem NetAt.below {w' : World} (h : NetAt w B g mb c v V way came) (hb : Below w.heap.size w w') : NetAt w' B g mb c v V way came :=
  ⟨(hb.block g h.glt).trans h.obj, h.row.sl.below hb, h.map.of (hb.block mb h.map.lt), fun k => (h.rows k).sl.below hb, h.dv, h.dd, h.g0, h.m0, h.few, h.cfew, h.c0⟩
theorem NetAt.mono (h : NetAt w B g mb c v V way came) {c' : Nat} (hc : c ≤ c') (hc' : c' ≤ 1000000) : NetAt w B g mb c' v V way came := by
  obtain ⟨D, n, h1, h2, h3⟩ := h.map
  exact ⟨h.obj, h.row, ⟨D, n, h1, by omega, h3⟩, h.rows, h.dv, h.dd, h.g0, h.m0, h.few, h.cfew, hc'⟩
end

/-- is a block the net's own? -/
def Own (g mb : Nat) (v : Value) (V : Int → Value) (q : Nat) : Prop := q = g ∨ q = mb ∨ v.ownBlock = some q ∨ ∃ k, (V k).ownBlock = some q
/-- what else there is stays -/
structure Turn (g mb : Nat) (w w' : World) (v v' : Value) (V V' : Int → Value) : Prop where
  os : w'.os = w.os
  tape : w'.tape = w.tape
  output : w'.output = w.output
  size : w.heap.size ≤ w'.heap.size
  keep : ∀ q, q < w.heap.size → ¬ Own g mb v V q → w'.heap[q]? = w.heap[q]?
  own : ∀ q, Own g mb v' V' q → Own g mb v V q ∨ w.heap.size ≤ q
theorem Turn.refl (g mb : Nat) (w : World) (v : Value) (V : Int → Value) : Turn g mb w w v v V V := ⟨rfl, rfl, rfl, Nat.le_refl _, fun _ _ _ => rfl, fun _ h => .inl h⟩
theorem Turn.trans {g mb : Nat} {w w' w'' : World} {v v' v'' : Value} {V V' V'' : Int → Value} (h : Turn g mb w w' v v' V V') (h' : Turn g mb w' w'' v' v'' V' V'') : Turn g mb w w'' v v'' V V'' := by
  refine ⟨h'.os.trans h.os, h'.tape.trans h.tape, h'.output.trans h.output, Nat.le_trans h.size h'.size, fun q hq hn => ?_, fun q hq => ?_⟩
  · refine (h'.keep q (Nat.lt_of_lt_of_le hq h.size) fun e => ?_).trans (h.keep q hq hn)
    rcases h.own q e with h1 | h1
    · exact hn h1
    · omega
  · rcases h'.own q hq with h1 | h1
    · exact h.own q h1
    · exact .inr (Nat.le_trans h.size h1)
theorem Turn.of_below {g mb : Nat} {w w' : World} {v : Value} {V : Int → Value} (h : Below w.heap.size w w') : Turn g mb w w' v v V V := ⟨h.os, h.tape, h.output, h.size, fun q hq _ => h.block q hq, fun _ h => .inl h⟩
theorem Turn.of_grown {g mb : Nat} {w w' : World} {v v' : Value} {V V' : Int → Value} {row : Option Nat} (h : w.grownBy w' row) (hr : ∀ q, row = some q → Own g mb v V q) (ho : ∀ q, Own g mb v' V' q → Own g mb v V q ∨ w.heap.size ≤ q) : Turn g mb w w' v v' V V' :=
  ⟨h.os, h.tape, h.output, h.size, fun q hq hn => h.block q hq fun e => hn (hr q e.symm), ho⟩
theorem Turn.below {g mb B : Nat} {w w' : World} {v v' : Value} {V V' : Int → Value} {way : List Pk} {came : Int → List Pk} {c : Nat} (h : Turn g mb w w' v v' V V') (hat : NetAt w B g mb c v V way came) (hB : B ≤ w.heap.size) : Below B w w' :=
  ⟨h.os, h.tape, h.output, h.size, fun q hq => h.keep q (by omega) fun e => by
    rcases e with h1 | h1 | h1 | ⟨k, h1⟩
    · have := hat.g0; omega
    · have := hat.m0; omega
    · have := hat.row.sl.ge q h1; omega
    · have := (hat.rows k).sl.ge q h1; omega⟩
end Go.Proofs.Ytdffghaledkfeaa
