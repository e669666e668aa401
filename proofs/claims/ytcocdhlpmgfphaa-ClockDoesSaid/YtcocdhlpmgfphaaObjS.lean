/- clock.Clock at one key type: its methods. -/
import Derived.Test.YtcocdhlpmgfphaaKeyS
import Derived.WalkSpells
namespace Go.Proofs.Ytcocdhlpmgfphaa.S
open Go Go.RowKit Go.Maps Go.WideShapes Go.ChangeMaps Go.WideMaps Go.MapKept

abbrev St := List (K × Bool)
def keysOf (L : St) : List K := L.map (·.1)

structure At (w : World) (B g mb c : Nat) (v : Value) (L : St) : Prop where
  obj : w.heap[g]? = some (.cells #[v, .map (some mb)] 54)
  row : Sl w B 9 1 v (keysOf L).length (encs (keysOf L))
  map : ∃ (D : DataW Unit) (n : Nat), w.ownsMap Try.prog 9 unitElem mb n D ∧ n ≤ c ∧ ∀ k, has D (kl k) = true ↔ (k, true) ∈ L
  nodup : (keysOf L).Nodup
  ok : ∀ k ∈ keysOf L, kok k
  g0 : B ≤ g
  m0 : B ≤ mb
  few : (keysOf L).length ≤ c
  c0 : c ≤ 1000000

/-- what else there is stays -/
structure Turn (g mb : Nat) (w w' : World) (v v' : Value) : Prop where
  os : w'.os = w.os
  tape : w'.tape = w.tape
  output : w'.output = w.output
  size : w.heap.size ≤ w'.heap.size
  keep : ∀ k, k < w.heap.size → k ≠ g → k ≠ mb → v.ownBlock ≠ some k → w'.heap[k]? = w.heap[k]?
  own : ∀ k, v'.ownBlock = some k → v.ownBlock = some k ∨ w.heap.size ≤ k
theorem Turn.refl (g mb : Nat) (w : World) (v : Value) : Turn g mb w w v v := ⟨rfl, rfl, rfl, Nat.le_refl _, fun _ _ _ _ _ => rfl, fun _ h => .inl h⟩
theorem Turn.trans {g mb : Nat} {w w' w'' : World} {v v' v'' : Value} (h : Turn g mb w w' v v') (h' : Turn g mb w' w'' v' v'') : Turn g mb w w'' v v'' := by
  refine ⟨h'.os.trans h.os, h'.tape.trans h.tape, h'.output.trans h.output, Nat.le_trans h.size h'.size, fun k hk hg hm hv => ?_, fun k hk => ?_⟩
  · refine (h'.keep k (Nat.lt_of_lt_of_le hk h.size) hg hm fun e => ?_).trans (h.keep k hk hg hm hv)
    rcases h.own k e with h1 | h1
    · exact hv h1
    · omega
  · rcases h'.own k hk with h1 | h1
    · exact h.own k h1
    · exact .inr (Nat.le_trans h.size h1)
theorem Turn.of_below {g mb : Nat} {w w' : World} {v : Value} (h : Below w.heap.size w w') : Turn g mb w w' v v := ⟨h.os, h.tape, h.output, h.size, fun k hk _ _ _ => h.block k hk, fun _ h => .inl h⟩
theorem Turn.of_grown {g mb : Nat} {w w' : World} {v : Value} {row : Option Nat} (h : w.grownBy w' row) (hr : ∀ k, row = some k → k = g ∨ k = mb ∨ v.ownBlock = some k) : Turn g mb w w' v v :=
  ⟨h.os, h.tape, h.output, h.size, fun k hk hg hm hv => h.block k hk fun e => by
    rcases hr k e.symm with h1 | h1 | h1
    · exact hg h1
    · exact hm h1
    · exact hv h1, fun _ h => .inl h⟩
theorem Turn.below {g mb B : Nat} {w w' : World} {v v' : Value} (h : Turn g mb w w' v v') (hB : B ≤ w.heap.size) (hg : B ≤ g) (hm : B ≤ mb) (hv : ∀ k, v.ownBlock = some k → B ≤ k) : Below B w w' :=
  ⟨h.os, h.tape, h.output, h.size, fun k hk => h.keep k (by omega) (by omega) (by omega) fun e => by have := hv k e; omega⟩

section
variable {w : World} {B g mb c : Nat} {v : Value} {L : St}
theorem At.c0' (h : At w B g mb c v L) : w.cell? ⟨g, 0, none⟩ = some v := by rw [row_cell h.obj]; rfl
theorem At.c1' (h : At w B g mb c v L) : w.cell? ⟨g, 1, none⟩ = some (.map (some mb)) := by rw [row_cell h.obj]; rfl
theorem At.mblk (h : At w B g mb c v L) : ∃ es ck, w.heap[mb]? = some (.map es ck) := by
  obtain ⟨D, n, ⟨es, ck, hb, _⟩, _⟩ := h.map
  exact ⟨es, ck, hb⟩
theorem At.gm (h : At w B g mb c v L) : g ≠ mb := by
  obtain ⟨es, ck, hb⟩ := h.mblk
  rintro rfl
  rw [h.obj] at hb; cases hb
theorem At.gv (h : At w B g mb c v L) : v.ownBlock ≠ some g := by
  intro e
  rcases h.row.2 with ⟨rfl, _⟩ | ⟨b, off, cap, cur, rfl, hB, hg, _⟩
  · cases e
  · simp [Value.ownBlock] at e; subst e
    rw [h.obj] at hg; cases hg
theorem At.mv (h : At w B g mb c v L) : v.ownBlock ≠ some mb := by
  intro e
  obtain ⟨es, ck, hb⟩ := h.mblk
  rcases h.row.2 with ⟨rfl, _⟩ | ⟨b, off, cap, cur, rfl, hB, hg, _⟩
  · cases e
  · simp [Value.ownBlock] at e; subst e
    rw [hb] at hg; cases hg
theorem At.glt (h : At w B g mb c v L) : g < w.heap.size := heap_lt h.obj
theorem At.mlt (h : At w B g mb c v L) : mb < w.heap.size := by
  obtain ⟨es, ck, hb⟩ := h.mblk
  exact heap_lt hb
theorem ownsMap_of {w w' : World} {mb n : Nat} {D : DataW Unit} (h : w.ownsMap Try.prog 9 unitElem mb n D) (hb : w'.heap[mb]? = w.heap[mb]?) : w'.ownsMap Try.prog 9 unitElem mb n D := by
  obtain ⟨es, ck, hh, r⟩ := h
  exact ⟨es, ck, hb.trans hh, r⟩
theorem At.below {w' : World} (h : At w B g mb c v L) (hb : Below w.heap.size w w') : At w' B g mb c v L := by
  obtain ⟨D, n, h1, h2, h3⟩ := h.map
  exact ⟨(hb.block g h.glt).trans h.obj, h.row.below hb, ⟨D, n, ownsMap_of h1 (hb.block mb h.mlt), h2, h3⟩, h.nodup, h.ok, h.g0, h.m0, h.few, h.c0⟩
theorem At.mono (h : At w B g mb c v L) {c' : Nat} (hc : c ≤ c') (hc' : c' ≤ 1000000) : At w B g mb c' v L := by
  obtain ⟨D, n, h1, h2, h3⟩ := h.map
  exact ⟨h.obj, h.row, ⟨D, n, h1, by omega, h3⟩, h.nodup, h.ok, h.g0, h.m0, by have := h.few; omega, hc'⟩
theorem At.bl (h : At w B g mb c v L) {w' : World} {v' : Value} (ht : Turn g mb w w' v v') (hB : B ≤ w.heap.size) : Below B w w' := ht.below hB h.g0 h.m0 h.row.ge
end

/-! ### made, Has, Len -/
theorem made_any (g mb : Nat) (w : World) (c1 : w.cell? ⟨g, 1, none⟩ = some (.map (some mb))) : Calls Try.prog 28 #[.pointer (some ⟨g, 0, none⟩)] w fun e w' => e = .returned (.bool true) ∧ w = w' := by
  have hneq := run_neq_map_nil (P := Try.prog) w 52 9 57 (some mb) Try.underlying52
  go_enter Try.func28, Try.ntmps28
  go_wp2
  go_ret
  exact ⟨rfl, rfl⟩
theorem has_any {w : World} {B g mb c : Nat} {v : Value} {L : St} (h : At w B g mb c v L) (s : K) (b : Bool) (hb : b = true ↔ s ∈ keysOf L) :
    Calls Try.prog 11 #[.pointer (some ⟨g, 0, none⟩), .string s] w fun e w' => e = .returned (.bool b) ∧ w = w' := by
  have c0 := h.c0'
  have HM := Lib.hid (made_any g mb w h.c1')
  obtain ⟨A, cap, rfl, _, _⟩ := h.row.any
  have HC := Lib.hid (contains_any A cap (keysOf L) s w h.row (by have := h.few; have := h.c0; omega) b hb)
  clear h hb
  go_enter Try.func11, Try.ntmps11
  go_wp2_with fail
  refine HM.out.mono ?_
  rintro e w' ⟨rfl, rfl⟩
  go_wp2_with fail
  refine HC.out.mono ?_
  rintro e w' ⟨rfl, rfl⟩
  go_wp2_with fail
  go_ret
  exact ⟨rfl, rfl⟩
theorem len_any {w : World} {B g mb c : Nat} {v : Value} {L : St} (h : At w B g mb c v L) :
    Calls Try.prog 27 #[.pointer (some ⟨g, 0, none⟩)] w fun e w' => e = .returned (.int .i64 ((keysOf L).length : Nat)) ∧ w = w' := by
  have c0 := h.c0'
  have HM := Lib.hid (made_any g mb w h.c1')
  obtain ⟨A, cap, rfl, _, _⟩ := h.row.any
  clear h
  go_enter Try.func27, Try.ntmps27
  go_wp2_with fail
  refine HM.out.mono ?_
  rintro e w' ⟨rfl, rfl⟩
  go_wp2_with fail
  go_ret
  exact ⟨rfl, rfl⟩

/-! ### Marked -/
theorem zero57 (w : World) : (zeroValue 57).run Try.prog w = .ok (.agg #[]) w := by kernel_rfl
theorem marked_any {w : World} {B g mb c : Nat} {v : Value} {L : St} (h : At w B g mb c v L) (s : K) (hs : kok s) (b : Bool) (hb : b = true ↔ (s, true) ∈ L) :
    Calls Try.prog 13 #[.pointer (some ⟨g, 0, none⟩), .string s] w fun e w' => e = .returned (.bool b) ∧ Below w.heap.size w w' := by
  have c1 := h.c1'
  have HM := Lib.hid (made_any g mb w h.c1')
  obtain ⟨D, n, hown, _, hD⟩ := h.map
  have hbD : has D (kl s) = b := by
    cases b
    · cases hh : has D (kl s)
      · rfl
      · exact absurd (hb.2 ((hD s).1 hh)) (by simp)
    · exact (hD s).2 (hb.1 rfl)
  have hkey := key_of hs
  clear h hb hD
  go_enter Try.func13, Try.ntmps13
  go_wp2_with fail
  refine HM.out.mono ?_
  rintro e w' ⟨rfl, rfl⟩
  go_wp2_with (at_lookup; refine wpList_lookup_own_unit _ rfl (.tmp 14) (.tmp 15) 52 rfl 9 57 law Try.underlying52 (zero57 _) mb n D rfl hown _ _ rfl hkey ?_)
  go_ret
  exact ⟨rfl, by go_grown⟩
end Go.Proofs.Ytcocdhlpmgfphaa.S
