/- NetOnce: the net and the list of what was sent, in one world. -/
import Derived.Test.YtdffghaledkfeaaOnceLaw
import Derived.Test.YtdffghaledkfeaaDoWalk
import Derived.Test.YtdffghaledkfeaaLarge
namespace Go.Proofs.Ytdffghaledkfeaa
open Go Go.RowKit
set_option maxRecDepth 100000
theorem rw_one {w : World} {B : Nat} {v : Value} {l : List Pk} {p : Pk} (h : Sl w B 23 3 v (l.length + 1) (cells3 l ++ [.int .i64 p.f, .int .i64 p.t, .string p.d])) : Rw w B v (l ++ [p]) := by
  have e : cells3 l ++ [.int .i64 p.f, .int .i64 p.t, .string p.d] = cells3 (l ++ [p]) := by rw [cells3_append]; rfl
  rw [e] at h
  unfold Rw
  rw [List.length_append]
  exact h
theorem rw_out {w : World} {B : Nat} {v : Value} {l : List Pk} {a : Nat} (ha : a < l.length) (h : Sl w B 23 3 v (a + (l.length - (a + 1))) (cells3 (l.take a) ++ cells3 (l.drop (a + 1)))) : Rw w B v (out l a) := by
  rw [← cells3_append] at h
  unfold Rw
  rw [out_len ha]
  rw [show a + (l.length - (a + 1)) = l.length - 1 by omega] at h
  exact h
structure OS (W w : World) (g mb c : Nat) (v : Value) (V : Int → Value) (x : Ns) (sv : Value) (sent : List Pk) : Prop where
  bl : Below W.heap.size W w
  na : NA w W.heap.size g mb c v V x
  snt : Rw w W.heap.size sv sent
  ap : ∀ q, Own g mb v V q → sv.ownBlock ≠ some q
section
variable {W w : World} {g mb c : Nat} {v : Value} {V : Int → Value} {x : Ns} {sv : Value} {sent : List Pk}
theorem OS.below (h : OS W w g mb c v V x sv sent) {w' : World} (hb : Below w.heap.size w w') : OS W w' g mb c v V x sv sent :=
  ⟨h.bl.trans (hb.mono h.bl.size), h.na.below hb, h.snt.sl.below hb, h.ap⟩
theorem OS.turn (h : OS W w g mb c v V x sv sent) {w' : World} {c' : Nat} {v' : Value} {V' : Int → Value} {x' : Ns} (hT : Turn g mb w w' v v' V V') (hN : NA w' W.heap.size g mb c' v' V' x') : OS W w' g mb c' v' V' x' sv sent :=
  ⟨h.bl.trans (hT.below h.na.at_ h.bl.size), hN, h.snt.sl.of fun q hq => hT.keep q (h.snt.sl.lt q hq) fun e => h.ap q e hq, fun q hq hs => by
    rcases hT.own q hq with e | e
    · exact h.ap q e hs
    · have := h.snt.sl.lt q hs; omega⟩
theorem OS.app (h : OS W w g mb c v V x sv sent) {w0 w1 : World} {sv' : Value} {sent' : List Pk} (hb : Below w.heap.size w w0) (hr : Rw w1 W.heap.size sv' sent') (hg : w0.grownBy w1 sv.ownBlock)
    (ho : ∀ k, sv'.ownBlock = some k → sv.ownBlock = some k ∨ w0.heap.size ≤ k) : OS W w1 g mb c v V x sv' sent' := by
  have h0 := h.below hb
  have hn := h0.na.at_
  have hown : ∀ q, Own g mb v V q → w1.heap[q]? = w0.heap[q]? := fun q hq => hg.block q (hn.own_lt hq) fun e => h.ap q hq e.symm
  refine ⟨h0.bl.trans ⟨hg.os, hg.tape, hg.output, hg.size, fun q hq => hg.block q (Nat.lt_of_lt_of_le hq h0.bl.size) fun e => ?_⟩, ⟨⟨(hown g (.inl rfl)).trans hn.obj, hn.row.sl.of fun q hq => hown q (.inr (.inr (.inl hq))), hn.map.of (hown mb (.inr (.inl rfl))), fun k => (hn.rows k).sl.of fun q hq => hown q (.inr (.inr (.inr ⟨k, hq⟩))), hn.dv, hn.dd, hn.g0, hn.m0, hn.few, hn.cfew, hn.c0⟩, h.na.ok⟩, hr, fun q hq hs => ?_⟩
  · have := h.snt.sl.ge q e.symm; omega
  · rcases ho q hs with e | e
    · exact h.ap q hq e
    · have := hn.own_lt hq; omega
/-- one more written down: its cells lay in a block just made -/
theorem OS.app1 (h : OS W w g mb c v V x sv sent) {w6 : World} {sv' : Value} {p : Pk} {o : Obj} (hsl : Sl w6 W.heap.size 23 3 sv' (sent.length + 1) (cells3 sent ++ [.int .i64 p.f, .int .i64 p.t, .string p.d]))
    (hg : (w.alloc o).grownBy w6 sv.ownBlock) (ho : ∀ k, sv'.ownBlock = some k → sv.ownBlock = some k ∨ w.heap.size + 1 ≤ k) :
    OS W w6 g mb c v V x sv' (sent ++ [p]) ∧ ∀ (q : Nat) (C : Array Value) (t : TypeId), w.heap[q]? = some (Obj.cells C t) → t ≠ 23 → w6.heap[q]? = some (Obj.cells C t) := by
  have hb : Below w.heap.size w (w.alloc o) := ⟨rfl, rfl, rfl, by rw [alloc_size]; omega, fun q hq => alloc_old _ _ _ hq⟩
  refine ⟨h.app hb (rw_one hsl) hg fun k hk => (ho k hk).imp id fun e => by rw [alloc_size]; exact e, fun q C t hq ht => ?_⟩
  have hlt := heap_lt hq
  exact (hg.block q (by rw [alloc_size]; omega) fun e => h.snt.sl.off hq ht e.symm).trans ((alloc_old _ _ _ hlt).trans hq)
theorem os_new {w w2 : World} (hb : Below w.heap.size w w2) (hN : NetAt w2 w.heap.size g mb 0 nilS (fun _ => nilS) [] (fun _ => [])) : OS w w2 g mb 0 nilS (fun _ => nilS) ⟨[], fun _ => []⟩ nilS [] :=
  ⟨hb, ⟨hN, by simp⟩, Sl.nil _ _ _ _, fun q _ e => by cases e⟩
/-- another one's block stays -/
theorem turn_keep (h : OS W w g mb c v V x sv sent) {w' : World} {v' : Value} {V' : Int → Value} {q : Nat} {o : Obj} (hq : w.heap[q]? = some o) (hn : ¬ Own g mb v V q) (hT : Turn g mb w w' v v' V V') : w'.heap[q]? = some o := (hT.keep q (heap_lt hq) hn).trans hq
end
/-- s[:a:a] -/
theorem _root_.Go.Proofs.Ytdffghaledkfeaa.Sl.head {w : World} {B : Nat} {e : TypeId} {sz n b off cap a : Nat} {xs : List Value} (h : Sl w B e sz (.slice (some ⟨b, off, none⟩) n cap) n xs) (ha : a ≤ n) : Sl w B e sz (.slice (some ⟨b, off, none⟩) a a) a (xs.take (a * sz)) := by
  have hm : a * sz ≤ n * sz := Nat.mul_le_mul_right _ ha
  refine ⟨by rw [List.length_take, h.1]; omega, ?_⟩
  rcases h.2 with ⟨h0, _⟩ | ⟨b', off', cap', cur, he, hB, hg, h1, h2, h3, hc⟩
  · cases h0
  · cases he
    have hm2 : n * sz ≤ cap * sz := Nat.mul_le_mul_right _ h1
    refine .inr ⟨b, off, a, cur, rfl, hB, hg, Nat.le_refl _, by omega, by omega, fun j u hu => ?_⟩
    rw [List.getElem?_take] at hu
    split at hu
    · exact hc j u hu
    · cases hu
theorem bytes_no {a b : ByteArray} (h : a ≠ b) : (ByteArray.toList a == ByteArray.toList b) = false := by
  rw [Go.ByteArray.toList_eq, Go.ByteArray.toList_eq]
  exact beq_eq_false_iff_ne.2 fun e => h (ByteArray.ext (Array.ext' e))
theorem pk_ne {q p : Pk} (h : ¬ q = p) : q.f ≠ p.f ∨ (q.f = p.f ∧ q.t ≠ p.t) ∨ (q.f = p.f ∧ q.t = p.t ∧ q.d ≠ p.d) := by
  by_cases h1 : q.f = p.f
  · by_cases h2 : q.t = p.t
    · refine .inr (.inr ⟨h1, h2, fun h3 => h ?_⟩)
      cases q; cases p; simp_all
    · exact .inr (.inl ⟨h1, h2⟩)
  · exact .inl h1
/-- a round of the first loop -/
structure Rnd (W w : World) (g mb k : Nat) (sv : Value) : Prop where
  has : ∃ c v V x sent, c ≤ k ∧ sent.length ≤ k ∧ OS W w g mb c v V x sv sent ∧ OInv x sent
end Go.Proofs.Ytdffghaledkfeaa
