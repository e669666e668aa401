/- posthouseref25.Net: what it holds; without, To. -/
import Derived.Test.YtdffghaledkfeaaDeliv
namespace Go.Proofs.Ytdffghaledkfeaa
open Go Go.RowKit
set_option maxRecDepth 100000
/-- without(l, i) -/
def WithoutV (L : List Pk) (w : World) (e : Ending) (w' : World) : Prop := ∃ A cap, e = .returned (.slice A L.length cap) ∧ Rw w' w.heap.size (.slice A L.length cap) L ∧ Below w.heap.size w w'
theorem sl_empty3 {W : World} {S B : Nat} (hB : B ≤ S) (h : W.heap[S]? = some (.cells #[] 23)) : Sl W B 23 3 (.slice (some ⟨S, 0, none⟩) 0 0) 0 [] :=
  ⟨rfl, .inr ⟨S, 0, 0, #[], rfl, hB, h, Nat.le_refl _, Nat.zero_le _, by simp, by simp⟩⟩
theorem without_fin {w W w1 w2 : World} {k : Nat} {L : List Pk} {v1 v2 : Value} (hk : k < L.length) (hb : Below w.heap.size w W) (hg1 : W.grownBy w1 (some w.heap.size)) (hs1 : Sl w1 w.heap.size 23 3 v1 (0 + k) ([] ++ cells3 (L.take k)))
    (hs2 : Sl w2 w.heap.size 23 3 v2 (0 + k + (L.length - (k + 1))) ([] ++ cells3 (L.take k) ++ cells3 (L.drop (k + 1)))) (hg2 : w1.grownBy w2 v1.ownBlock) : Rw w2 w.heap.size v2 (out L k) ∧ Below w.heap.size w w2 := by
  refine ⟨?_, ?_⟩
  · show Sl _ _ _ _ _ _ _
    rw [out_len hk, show L.length - 1 = 0 + k + (L.length - (k + 1)) by omega]
    unfold out
    rw [cells3_append]
    simpa using hs2
  · have h1 := hb.grown hg1 hb.size (fun q hq => by cases hq; exact Nat.le_refl _)
    exact h1.grown hg2 h1.size hs1.ge
set_option maxHeartbeats 4000000 in
theorem without_any {B : Nat} (A0 : Option Addr) (cap k : Nat) (L : List Pk) (w : World) (h : Rw w B (.slice A0 L.length cap) L) (hk : k < L.length) (hfew : L.length ≤ 1000000) :
    Calls Try.prog 22 #[.slice A0 L.length cap, .int .i64 k] w (WithoutV (out L k) w) := by
  obtain ⟨i0, hi, hz0, hz1, hz2⟩ := info_parts info23
  obtain ⟨b, off, cap', he, hcap, hcm⟩ := h.sl.shape (by omega)
  cases he
  unfold maxLen at hcm
  have hlt : b < w.heap.size := h.sl.lt b rfl
  have hE : (w.alloc (.cells #[] 23)).drew.heap[w.heap.size]? = some (.cells #[] 23) := heap_alloc_new w _
  have hbl : Below w.heap.size w (w.alloc (.cells #[] 23)).drew := by go_grown
  have hsrc : Rw (w.alloc (.cells #[] 23)).drew B (.slice (some ⟨b, off, none⟩) L.length cap) L := h.sl.below hbl
  have hn1 : ∀ t u, (cells3 (L.take k))[t]? = some u → (w.alloc (.cells #[] 23)).drew.cell? ((⟨b, off, none⟩ : Addr).add t) = some u := by
    intro t u hu
    rw [addr_add]
    refine hsrc.sl.cell ?_
    rw [← cells3_take, List.getElem?_take] at hu
    split at hu
    · exact hu
    · cases hu
  obtain ⟨A, hA, hA2⟩ : ∃ A : Addr, (if cap = k + 1 then some (⟨b, off, none⟩ : Addr) else some ⟨b, off + (k + 1) * 3, none⟩) = some A ∧ ∀ W, Rw W B (.slice (some ⟨b, off, none⟩) L.length cap) L → ∀ t u, (cells3 (L.drop (k + 1)))[t]? = some u → W.cell? (A.add t) = some u := by
    by_cases hc : cap = k + 1
    · refine ⟨⟨b, off, none⟩, by simp [hc], fun W hW t u hu => ?_⟩
      have h0 : L.drop (k + 1) = [] := List.drop_eq_nil_of_le (by omega)
      rw [h0] at hu
      simp [cells3] at hu
    · refine ⟨⟨b, off + (k + 1) * 3, none⟩, by simp [hc], fun W hW t u hu => ?_⟩
      rw [addr_add]
      rw [← cells3_drop, List.getElem?_drop] at hu
      rw [Nat.add_assoc]
      exact hW.sl.cell hu
  have HE := Lib.hid (sl_empty3 (B := w.heap.size) (Nat.le_refl _) hE)
  have HN := Lib.hid hn1
  have HS := Lib.hid hsrc
  have HA2 := Lib.hid hA2
  have HB := Lib.hid hbl
  have hkc : k ≤ cap := by omega
  have hkc1 : k + 1 ≤ cap := by omega
  have hkl : (k : Int) + 1 ≤ (L.length : Int) := by omega
  have hk0 : (0 : Int) ≤ (k : Int) + 1 := by omega
  have hwr : IntKind.i64.wrap ((k : Int) + 1) = (k : Int) + 1 := by rw [IntKind.wrap_i64]; omega
  have hk2 : ((k : Int) + 1).toNat = k + 1 := by omega
  have hkci : (k : Int) ≤ (cap : Int) := by omega
  have hl1 : (cells3 (L.take k)).length = k * 3 := by rw [cells3_len, List.length_take, Nat.min_eq_left (by omega)]
  have hl2 : (cells3 (L.drop (k + 1))).length = (L.length - (k + 1)) * 3 := by rw [cells3_len, List.length_drop]
  have HL1 := Lib.hid hl1
  have HL2 := Lib.hid hl2
  clear h hE hbl hsrc hn1 hA2 hl1 hl2
  go_enter Try.func22, Try.ntmps22
  go_wp2_with fail
  go_region_law (first
    | (refine step_append_sl rfl (.tmp 5) (.tmp 8) 30 rfl 23 i0 (.agg #[.int .i64 0, .int .i64 0, .string ⟨#[]⟩]) 3 32 Try.underlying30 hi hz0 hz1 hz2 rfl (by decide) (v := .slice (some ⟨w.heap.size, 0, none⟩) 0 0) (by simp [Act.eval, Act.put]) HE.out (some ⟨b, off, none⟩) k cap (cells3 (L.take k)) (by simp [Act.eval, Act.put]) (by simp) HL1.out (by intro ad had; cases had; exact HN.out) (cells3_one _) (by unfold maxLen; omega) (by omega) (by exact Nat.le_of_lt (heap_lt (heap_alloc_new w _))) ?_; intro v1 w1 hsl1 hgrow1 hown1)
    | (refine step_append_sl rfl (.tmp 9) (.tmp 13) 30 rfl 23 i0 (.agg #[.int .i64 0, .int .i64 0, .string ⟨#[]⟩]) 3 32 Try.underlying30 hi hz0 hz1 hz2 rfl (by decide) (v := v1) (by simp [Act.eval, Act.put]) hsl1 (some A) (L.length - (k + 1)) (cap - (k + 1)) (cells3 (L.drop (k + 1))) (by simp [Act.eval, Act.put]) (by simp) HL2.out (by intro ad had; cases had; exact HA2.out _ (HS.out.sl.grown hgrow1 (.inr (by simp [Value.ownBlock]; omega)))) (cells3_one _) (by unfold maxLen; omega) (by omega) (by exact Nat.le_trans (Nat.le_of_lt (heap_lt (heap_alloc_new w _))) hgrow1.size) ?_; intro v2 w2 hsl2 hgrow2 hown2))
  all_goals
    have hfin : Rw w2 w.heap.size v2 (out L k) ∧ Below w.heap.size w w2 := without_fin hk HB.out hgrow1 hsl1 hsl2 hgrow2
    have HF := Lib.hid hfin
    clear hfin hsl1 hgrow1 hown1 hsl2 hgrow2 hown2
    go_wp2_with fail
    go_returns
    obtain ⟨A3, c3, rfl, _, _⟩ := HF.out.1.sl.any
    exact ⟨A3, c3, rfl, HF.out.1, HF.out.2⟩

/-- the document's net: its object at block r, what is under way in the row wv, what came in the row cv -/
structure RefAt (w : World) (B r : Nat) (wv cv : Value) (way cl : List Pk) : Prop where
  obj : w.heap[r]? = some (.cells #[wv, cv] 32)
  row : Rw w B wv way
  crow : Rw w B cv cl
  dd : disj wv cv
  r0 : B ≤ r
  few : way.length ≤ 512
  cfew : cl.length ≤ 1000
def ROwn (r : Nat) (wv cv : Value) (q : Nat) : Prop := q = r ∨ wv.ownBlock = some q ∨ cv.ownBlock = some q
structure RTurn (r : Nat) (w w' : World) (wv wv' cv cv' : Value) : Prop where
  os : w'.os = w.os
  tape : w'.tape = w.tape
  output : w'.output = w.output
  size : w.heap.size ≤ w'.heap.size
  keep : ∀ q, q < w.heap.size → ¬ ROwn r wv cv q → w'.heap[q]? = w.heap[q]?
  own : ∀ q, ROwn r wv' cv' q → ROwn r wv cv q ∨ w.heap.size ≤ q
section
variable {w : World} {B r : Nat} {wv cv : Value} {way cl : List Pk}
theorem RTurn.trans {w' w'' : World} {wv' wv'' cv' cv'' : Value} (h : RTurn r w w' wv wv' cv cv') (h' : RTurn r w' w'' wv' wv'' cv' cv'') : RTurn r w w'' wv wv'' cv cv'' := by
  refine ⟨h'.os.trans h.os, h'.tape.trans h.tape, h'.output.trans h.output, Nat.le_trans h.size h'.size, fun q hq hn => ?_, fun q hq => ?_⟩
  · refine (h'.keep q (Nat.lt_of_lt_of_le hq h.size) fun e => ?_).trans (h.keep q hq hn)
    rcases h.own q e with h1 | h1
    · exact hn h1
    · omega
  · rcases h'.own q hq with h1 | h1
    · exact h.own q h1
    · exact .inr (Nat.le_trans h.size h1)
theorem RTurn.of_below {w' : World} (h : Below w.heap.size w w') : RTurn r w w' wv wv cv cv := ⟨h.os, h.tape, h.output, h.size, fun q hq _ => h.block q hq, fun _ h => .inl h⟩
theorem RTurn.far {w1 : World} {wv' cv' : Value} (h : RTurn r w w1 wv wv' cv cv') {q : Nat} (hq : w.heap.size ≤ q) (o : Nat) (u : Value) : RTurn r w (w1.setCell ⟨q, o, none⟩ u) wv wv' cv cv' :=
  ⟨h.os, h.tape, h.output, by simpa [World.setCell] using h.size, fun k hk hn => (Below.heap_setCell _ _ _ _ (by simp; omega)).trans (h.keep k hk hn), h.own⟩
theorem RefAt.cc0 (h : RefAt w B r wv cv way cl) : w.cell? ⟨r, 0, none⟩ = some wv := by rw [row_cell h.obj]; rfl
theorem RefAt.cc1 (h : RefAt w B r wv cv way cl) : w.cell? ⟨r, 1, none⟩ = some cv := by rw [row_cell h.obj]; rfl
theorem RefAt.ff (h : RefAt w B r wv cv way cl) (o : Nat) : w.frozen? ⟨r, o, none⟩ = false := row_froz h.obj o
theorem RefAt.rlt (h : RefAt w B r wv cv way cl) : r < w.heap.size := heap_lt h.obj
theorem RefAt.rwv (h : RefAt w B r wv cv way cl) : wv.ownBlock ≠ some r := h.row.sl.off h.obj (by decide)
theorem RefAt.rcv (h : RefAt w B r wv cv way cl) : cv.ownBlock ≠ some r := h.crow.sl.off h.obj (by decide)
theorem RefAt.own_lt (h : RefAt w B r wv cv way cl) {q : Nat} (hq : ROwn r wv cv q) : q < w.heap.size := by
  rcases hq with rfl | hq | hq
  · exact h.rlt
  · exact h.row.sl.lt _ hq
  · exact h.crow.sl.lt _ hq
theorem RefAt.of {w' : World} (h : RefAt w B r wv cv way cl) (hb : ∀ q, ROwn r wv cv q → w'.heap[q]? = w.heap[q]?) : RefAt w' B r wv cv way cl :=
  ⟨(hb r (.inl rfl)).trans h.obj, h.row.sl.of fun q hq => hb q (.inr (.inl hq)), h.crow.sl.of fun q hq => hb q (.inr (.inr hq)), h.dd, h.r0, h.few, h.cfew⟩
theorem RefAt.below {w' : World} (h : RefAt w B r wv cv way cl) (hb : Below w.heap.size w w') : RefAt w' B r wv cv way cl := h.of fun q hq => hb.block q (h.own_lt hq)
theorem RefAt.far (h : RefAt w B r wv cv way cl) {q : Nat} (hq : ¬ ROwn r wv cv q) (o : Nat) (u : Value) : RefAt (w.setCell ⟨q, o, none⟩ u) B r wv cv way cl :=
  h.of fun k hk => Below.heap_setCell _ _ _ _ (by simp; rintro rfl; exact hq hk)

/-- a new row of what is under way is stored -/
theorem RefAt.putWay (h : RefAt w B r wv cv way cl) {w0 w1 : World} (hb : Below w.heap.size w w0) {v' : Value} {way' : List Pk} (hr : Rw w1 B v' way') (hg : w0.grownBy w1 wv.ownBlock)
    (ho : ∀ k, v'.ownBlock = some k → wv.ownBlock = some k ∨ w0.heap.size ≤ k ∨ w.heap.size ≤ k) (hl : way'.length ≤ 512) :
    w1.cell? ⟨r, 0, none⟩ = some wv ∧ w1.frozen? ⟨r, 0, none⟩ = false ∧ RefAt (w1.setCell ⟨r, 0, none⟩ v') B r v' cv way' cl ∧ RTurn r w (w1.setCell ⟨r, 0, none⟩ v') wv v' cv cv := by
  have h1 : w1.heap[r]? = some (.cells #[wv, cv] 32) := (hg.block r (Nat.lt_of_lt_of_le h.rlt hb.size) fun e => h.rwv e.symm).trans ((hb.block r h.rlt).trans h.obj)
  have ho' : ∀ k, v'.ownBlock = some k → wv.ownBlock = some k ∨ w.heap.size ≤ k := fun k hk => (ho k hk).imp id fun hk => by have := hb.size; omega
  have hng := hr.sl.off h1 (by decide)
  have hb1 : ∀ q, q ≠ r → (w1.setCell ⟨r, 0, none⟩ v').heap[q]? = w1.heap[q]? := fun q hq => Below.heap_setCell _ _ _ _ (by simpa using hq)
  have hc1 : ∀ q, cv.ownBlock = some q → w1.heap[q]? = w.heap[q]? := fun q hq => by
    have hlt := h.crow.sl.lt q hq
    exact (hg.block q (Nat.lt_of_lt_of_le hlt hb.size) fun e => h.dd q e.symm hq).trans (hb.block q hlt)
  refine ⟨by rw [row_cell h1]; rfl, row_froz h1 0, ⟨?_, hr.sl.of fun k hk => hb1 k fun e => hng (by rw [hk, e]), h.crow.sl.of fun q hq => (hb1 q fun e => h.rcv (by rw [hq, e])).trans (hc1 q hq), fun q hq hq2 => ?_, h.r0, hl, h.cfew⟩, ⟨hg.os.trans hb.os, hg.tape.trans hb.tape, hg.output.trans hb.output, ?_, fun q hq hn => ?_, fun q hq => ?_⟩⟩
  · rw [setCell_heap h1]; rfl
  · rcases ho' q hq with e | e
    · exact h.dd q e hq2
    · have := h.crow.sl.lt q hq2; omega
  · have := hb.size
    have := hg.size
    simp [World.setCell]; omega
  · rw [hb1 q fun e => hn (.inl e), hg.block q (Nat.lt_of_lt_of_le hq hb.size) fun e => hn (.inr (.inl e.symm)), hb.block q hq]
  · rcases hq with hq | hq | hq
    · exact .inl (.inl hq)
    · exact (ho' q hq).imp (fun h => .inr (.inl h)) id
    · exact .inl (.inr (.inr hq))
/-- a new row of what came is stored -/
theorem RefAt.putCame (h : RefAt w B r wv cv way cl) {w0 w1 : World} (hb : Below w.heap.size w w0) {v' : Value} {cl' : List Pk} (hr : Rw w1 B v' cl') (hg : w0.grownBy w1 cv.ownBlock)
    (ho : ∀ k, v'.ownBlock = some k → cv.ownBlock = some k ∨ w0.heap.size ≤ k ∨ w.heap.size ≤ k) (hl : cl'.length ≤ 1000) :
    w1.cell? ⟨r, 1, none⟩ = some cv ∧ w1.frozen? ⟨r, 1, none⟩ = false ∧ RefAt (w1.setCell ⟨r, 1, none⟩ v') B r wv v' way cl' ∧ RTurn r w (w1.setCell ⟨r, 1, none⟩ v') wv wv cv v' := by
  have h1 : w1.heap[r]? = some (.cells #[wv, cv] 32) := (hg.block r (Nat.lt_of_lt_of_le h.rlt hb.size) fun e => h.rcv e.symm).trans ((hb.block r h.rlt).trans h.obj)
  have ho' : ∀ k, v'.ownBlock = some k → cv.ownBlock = some k ∨ w.heap.size ≤ k := fun k hk => (ho k hk).imp id fun hk => by have := hb.size; omega
  have hng := hr.sl.off h1 (by decide)
  have hb1 : ∀ q, q ≠ r → (w1.setCell ⟨r, 1, none⟩ v').heap[q]? = w1.heap[q]? := fun q hq => Below.heap_setCell _ _ _ _ (by simpa using hq)
  have hc1 : ∀ q, wv.ownBlock = some q → w1.heap[q]? = w.heap[q]? := fun q hq => by
    have hlt := h.row.sl.lt q hq
    exact (hg.block q (Nat.lt_of_lt_of_le hlt hb.size) fun e => h.dd q hq e.symm).trans (hb.block q hlt)
  refine ⟨by rw [row_cell h1]; rfl, row_froz h1 1, ⟨?_, h.row.sl.of fun q hq => (hb1 q fun e => h.rwv (by rw [hq, e])).trans (hc1 q hq), hr.sl.of fun k hk => hb1 k fun e => hng (by rw [hk, e]), fun q hq2 hq => ?_, h.r0, h.few, hl⟩, ⟨hg.os.trans hb.os, hg.tape.trans hb.tape, hg.output.trans hb.output, ?_, fun q hq hn => ?_, fun q hq => ?_⟩⟩
  · rw [setCell_heap h1]; rfl
  · rcases ho' q hq with e | e
    · exact h.dd q hq2 e
    · have := h.row.sl.lt q hq2; omega
  · have := hb.size
    have := hg.size
    simp [World.setCell]; omega
  · rw [hb1 q fun e => hn (.inl e), hg.block q (Nat.lt_of_lt_of_le hq hb.size) fun e => hn (.inr (.inr e.symm)), hb.block q hq]
  · rcases hq with hq | hq | hq
    · exact .inl (.inl hq)
    · exact .inl (.inr (.inl hq))
    · exact (ho' q hq).imp (fun h => .inr (.inr h)) id
end
end Go.Proofs.Ytdffghaledkfeaa
