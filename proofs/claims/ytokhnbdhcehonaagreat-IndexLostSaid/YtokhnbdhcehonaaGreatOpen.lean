/- Arguments without pointers in them, opened: structs and arrays of numbers, bools and texts, as one list of cells; slices of such. -/
import Derived.WalkKit
import Derived.ProofKit
import Derived.OpenShut
import Derived.Deep.Slices
set_option linter.unusedSimpArgs false
set_option linter.unusedVariables false
namespace Go.Proofs.YtokhnbdhcehonaaGreat
open Go Go.RowKit Go.ChangeShapes Go.WideShapes Go.ChangeAt Go.Deep

/-- what a cell may be: 0 a bool, 1 a text, 2 an int64, 3 a byte, 4 a uint32 -/
def leafOk : Nat → Value → Prop
  | 0, .bool _ => True
  | 1, .string s => s.size ≤ maxLen
  | 2, .int k n => k = .i64 ∧ (Lit.int .i64 n).wf = true
  | 3, .int k n => k = .u8 ∧ (Lit.int .u8 n).wf = true
  | 4, .int k n => k = .u32 ∧ (Lit.int .u32 n).wf = true
  | _, _ => False

def Typed : List Nat → List Value → Prop
  | [], [] => True
  | k :: ks, v :: vs => leafOk k v ∧ Typed ks vs
  | _, _ => False

theorem Typed.length : ∀ {ks : List Nat} {vs : List Value}, Typed ks vs → vs.length = ks.length
  | [], [], _ => rfl
  | [], _ :: _, h => h.elim
  | _ :: _, [], h => h.elim
  | k :: ks, v :: vs, h => by simp [Typed.length h.2]
theorem Typed.append : ∀ {ks ks' : List Nat} {vs vs' : List Value}, Typed ks vs → Typed ks' vs' → Typed (ks ++ ks') (vs ++ vs')
  | [], _, [], _, _, h' => h'
  | [], _, _ :: _, _, h, _ => h.elim
  | _ :: _, _, [], _, h, _ => h.elim
  | k :: ks, _, v :: vs, _, h, h' => ⟨h.1, Typed.append h.2 h'⟩

def leafOf : TypeDesc → Option Nat
  | .bool => some 0
  | .string => some 1
  | .int .i64 => some 2
  | .int .u8 => some 3
  | .int .u32 => some 4
  | _ => none

def fieldKinds (P : Program) (kinds : TypeId → Option (List Nat)) : List Field → Nat → Option (List Nat)
  | [], _ => some []
  | f :: fs, off =>
    match kinds f.type with
    | some ks => if f.offset = off ∧ P.cellsOf f.type = ks.length then (fieldKinds P kinds fs (off + ks.length)).map (ks ++ ·) else none
    | none => none

def flatKinds (P : Program) : Nat → TypeId → Option (List Nat)
  | 0, _ => none
  | d + 1, t =>
    match P.underlying t with
    | some (.struct fs) => match fieldKinds P (flatKinds P d) fs.toList 0 with | some ks => if P.cellsOf t = ks.length then some ks else none | none => none
    | some (.array n e) =>
      match flatKinds P d e with
      | some ks => if P.cellsOf e = ks.length ∧ P.cellsOf t = n * ks.length then some (List.replicate n ks).flatten else none
      | none => none
    | some u => (leafOf u).map ([·])
    | none => none

section
variable {H : Type} {enc : TypeId × Value → H} {P : Program} {w : World} {base : Nat} {spare : Nat → Bool} {held : Bool}

theorem mapM_get {α β : Type} {f : α → Option β} : ∀ {l : List α} {r : List β}, l.mapM f = some r → ∀ i (h : i < l.length), ∃ y, f l[i] = some y
  | [], _, _, i, h => absurd h (Nat.not_lt_zero _)
  | a :: l, r, hm, i, h => by
    rw [List.mapM_cons] at hm
    cases ha : f a with
    | none => simp [ha] at hm
    | some y =>
      cases hl : l.mapM f with
      | none => simp [ha, hl] at hm
      | some r' =>
        cases i with
        | zero => exact ⟨y, ha⟩
        | succ i => exact mapM_get hl i (by simpa using h)

theorem fields_typed {d : Nat} (ih : ∀ t ks fuel cs x, flatKinds P d t = some ks → DataW.trod enc P w base spare held fuel t cs = some x → Typed ks cs) {fuel : Nat} {cs : List Value} :
    ∀ (fs : List Field) (off : Nat) (ks : List Nat), fieldKinds P (flatKinds P d) fs off = some ks →
      (∀ i (h : i < fs.length), ∃ y, DataW.trod enc P w base spare held fuel (fs[i]).type ((cs.drop (fs[i]).offset).take (P.cellsOf (fs[i]).type)) = some y) →
      Typed ks ((cs.drop off).take ks.length)
  | [], off, ks, hk, _ => by
    simp [fieldKinds] at hk
    subst hk
    simp [Typed]
  | f :: fs, off, ks, hk, hx => by
    unfold fieldKinds at hk
    cases hf : flatKinds P d f.type with
    | none => simp [hf] at hk
    | some k1 =>
      simp only [hf] at hk
      split at hk
      · rename_i hc
        cases hr : fieldKinds P (flatKinds P d) fs (off + k1.length) with
        | none => simp [hr] at hk
        | some k2 =>
          simp only [hr, Option.map_some, Option.some.injEq] at hk
          subst hk
          obtain ⟨y, hy⟩ := hx 0 (by simp)
          simp only [List.getElem_cons_zero] at hy
          rw [hc.1, hc.2] at hy
          have h1 := ih _ _ _ _ _ hf hy
          have h2 := fields_typed ih fs _ k2 hr (fun i h => hx (i + 1) (by simpa using h))
          have := h1.append h2
          rw [List.length_append]
          have e : (cs.drop off).take (k1.length + k2.length) = (cs.drop off).take k1.length ++ (cs.drop (off + k1.length)).take k2.length := by
            rw [List.take_add, List.drop_drop]
          rw [e]
          exact this
      · cases hk

theorem array_typed {d : Nat} (ih : ∀ t ks fuel cs x, flatKinds P d t = some ks → DataW.trod enc P w base spare held fuel t cs = some x → Typed ks cs) {fuel : Nat} {e : TypeId} {ks : List Nat} (hk : flatKinds P d e = some ks) (hs : P.cellsOf e = ks.length) {cs : List Value} :
    ∀ (n i : Nat), (∀ j, i ≤ j → j < i + n → ∃ y, DataW.trod enc P w base spare held fuel e ((cs.drop (j * P.cellsOf e)).take (P.cellsOf e)) = some y) →
      Typed (List.replicate n ks).flatten ((cs.drop (i * ks.length)).take (n * ks.length))
  | 0, i, _ => by simp [Typed]
  | n + 1, i, hx => by
    obtain ⟨y, hy⟩ := hx i (Nat.le_refl _) (by omega)
    rw [hs] at hy
    have h1 := ih _ _ _ _ _ hk hy
    have h2 := array_typed ih hk hs (cs := cs) n (i + 1) (fun j h1 h2 => hx j (by omega) (by omega))
    have := h1.append h2
    have e : (cs.drop (i * ks.length)).take ((n + 1) * ks.length) = (cs.drop (i * ks.length)).take ks.length ++ (cs.drop ((i + 1) * ks.length)).take (n * ks.length) := by
      rw [Nat.succ_mul n, Nat.add_comm, List.take_add, List.drop_drop, Nat.succ_mul i]
    rw [e, List.replicate_succ, List.flatten_cons]
    exact this

theorem typed_of_trod : ∀ (d : Nat) (t : TypeId) (ks : List Nat) (fuel : Nat) (cs : List Value) (x : DataW H × List MemPlace), flatKinds P d t = some ks → DataW.trod enc P w base spare held fuel t cs = some x → Typed ks cs
  | 0, _, _, _, _, _, hk, _ => by simp [flatKinds] at hk
  | d + 1, t, ks, 0, cs, x, _, h => by simp [DataW.trod] at h
  | d + 1, t, ks, fuel + 1, cs, x, hk, h => by
    have ih := typed_of_trod d
    unfold flatKinds at hk
    cases hu : P.underlying t with
    | none => simp [hu] at hk
    | some u =>
      simp only [hu] at hk
      cases u with
      | struct fs =>
        simp only at hk
        cases hf : fieldKinds P (flatKinds P d) fs.toList 0 with
        | none => simp [hf] at hk
        | some k1 =>
          simp only [hf] at hk
          split at hk
          · rename_i hc
            cases hk
            unfold DataW.trod at h
            rw [hu] at h
            simp only at h
            split at h
            · rename_i hlen
              cases hm : (fs.toList.mapM fun f => DataW.trod enc P w base spare held fuel f.type ((cs.drop f.offset).take (P.cellsOf f.type))) with
              | none => simp [hm] at h
              | some r =>
                have := fields_typed (fuel := fuel) (cs := cs) ih fs.toList 0 _ hf (fun i hi => mapM_get hm i hi)
                rw [List.drop_zero, List.take_of_length_le (by omega)] at this
                exact this
            · cases h
          · cases hk
      | array n e =>
        simp only at hk
        cases hf : flatKinds P d e with
        | none => simp [hf] at hk
        | some k1 =>
          simp only [hf] at hk
          split at hk
          · rename_i hc
            cases hk
            unfold DataW.trod at h
            rw [hu] at h
            simp only at h
            split at h
            · rename_i hlen
              cases hm : ((List.range n).mapM fun i => DataW.trod enc P w base spare held fuel e ((cs.drop (i * P.cellsOf e)).take (P.cellsOf e))) with
              | none => simp [hm] at h
              | some r =>
                have := array_typed (fuel := fuel) (cs := cs) ih hf hc.1 n 0 (fun j _ h2 => by
                  have := mapM_get hm j (by simpa using h2)
                  simpa using this)
                rw [Nat.zero_mul, List.drop_zero, List.take_of_length_le (by omega)] at this
                exact this
            · cases h
          · cases hk
      | bool =>
        simp only [leafOf, Option.map_some, Option.some.injEq] at hk
        subst hk
        unfold DataW.trod at h
        rw [hu] at h
        split at h <;> simp_all [Typed, leafOk]
      | string =>
        simp only [leafOf, Option.map_some, Option.some.injEq] at hk
        subst hk
        unfold DataW.trod at h
        rw [hu] at h
        split at h <;> simp_all [Typed, leafOk]
      | int k =>
        unfold DataW.trod at h
        rw [hu] at h
        cases k <;> simp [leafOf] at hk <;> subst hk <;> (split at h <;> simp_all [Typed, leafOk])
      | _ => simp [leafOf] at hk

/-- The slice A of rows, each of sz cells, lies in memory as L. -/
def RowsAt (w : World) (A : Option Addr) (sz : Nat) (L : List (List Value)) : Prop :=
  0 < L.length → ∃ b off, A = some ⟨b, off, none⟩ ∧ b < w.heap.size ∧ ∀ i (h : i < L.length) j v, (L[i])[j]? = some v → w.cell? ⟨b, off + i * sz + j, none⟩ = some v

theorem RowsAt.below {w w' : World} {A : Option Addr} {sz B : Nat} {L : List (List Value)} (h : RowsAt w A sz L) (hB : w.heap.size ≤ B) (hb : Below B w w') : RowsAt w' A sz L := by
  intro hl
  obtain ⟨b, off, rfl, hlt, hc⟩ := h hl
  exact ⟨b, off, rfl, by have := hb.size; omega, fun i hi j v hj => (hb.cell (p := ⟨b, _, none⟩) (by show b < B; omega)).trans (hc i hi j v hj)⟩

theorem choose_list {α : Type} {p : Nat → α → Prop} : ∀ (n : Nat), (∀ i, i < n → ∃ x, p i x) → ∃ L : List α, L.length = n ∧ ∀ i (h : i < L.length), p i L[i]
  | 0, _ => ⟨[], rfl, fun i h => absurd h (Nat.not_lt_zero _)⟩
  | n + 1, h => by
    obtain ⟨L, hl, hp⟩ := choose_list n fun i hi => h i (by omega)
    obtain ⟨x, hx⟩ := h n (by omega)
    refine ⟨L ++ [x], by simp [hl], fun i hi => ?_⟩
    by_cases h1 : i < L.length
    · rw [List.getElem_append_left h1]; exact hp i h1
    · have : i = n := by simp at hi; omega
      subst this
      rw [List.getElem_append_right (by omega)]
      simp [hl]; exact hx

theorem add_plain {a : Addr} (h : a.spot = none) (n : Nat) : a.add n = ⟨a.block, a.off + n, none⟩ := by
  unfold Addr.add
  split
  · rename_i h0; subst h0; obtain ⟨b, o, s⟩ := a; simp at h; subst h; rfl
  · rfl

theorem cell_lt {w : World} {a : Addr} {v : Value} (h : w.cell? a = some v) : a.block < w.heap.size ∧ a.spot = none := by
  unfold World.cell? at h
  have hlt : a.block < w.heap.size := by
    rcases Nat.lt_or_ge a.block w.heap.size with h' | h'
    · exact h'
    · rw [Array.getElem?_eq_none h'] at h; cases h
  refine ⟨hlt, ?_⟩
  split at h
  · split at h
    · cases h
    · rename_i hs; simpa using hs
  · cases h

theorem slice_rows {r : Reach} {b0 : Nat} {t e : TypeId} {d : Nat} {ks : List Nat} {v : Value} {x : DataW H} {p : List MemPlace} (ht : P.underlying t = some (.slice e)) (hk : flatKinds P d e = some ks) (hC : P.cellsOf e = ks.length) (hpos : 0 < ks.length)
    (hv : Value.okWide P w r b0 t v) (h : DataW.Trod enc P w base spare held t v x p) :
    ∃ (A : Option Addr) (L : List (List Value)) (cap : Nat), v = .slice A L.length cap ∧ L.length ≤ cap ∧ cap ≤ maxLen ∧ (∀ (i : Nat) (h : i < L.length), Typed ks L[i]) ∧ RowsAt w A ks.length L := by
  obtain ⟨A, len, cap, rfl⟩ := okWide_slice ht hv
  obtain ⟨fuel, hf⟩ := h
  simp only [Value.cells] at hf
  rcases open_slice ht hf with ⟨h0, _⟩ | ⟨a, len', cap', m, n, D, Pl, hcs, hb, hl, hm, hmm, _, hi⟩
  · have : A = none ∧ len = 0 ∧ cap = 0 := by simpa using h0
    obtain ⟨rfl, rfl, rfl⟩ := this
    exact ⟨none, [], 0, rfl, Nat.le_refl _, Nat.zero_le _, fun i h => absurd h (Nat.not_lt_zero _), fun h => absurd h (Nat.lt_irrefl 0)⟩
  · have : A = some a ∧ len = len' ∧ cap = cap' := by simpa using hcs
    obtain ⟨rfl, rfl, rfl⟩ := this
    have hlm : len ≤ m := by rw [hmm]; split <;> omega
    obtain ⟨L, hL, hp⟩ := choose_list (p := fun i row => Typed ks row ∧ ∀ j v, row[j]? = some v → w.cell? ((a.add (i * ks.length)).add j) = some v) len fun i hlt => by
      obtain ⟨cs, hcells, htr⟩ := hi i (by omega)
      obtain ⟨_, hlen, hat⟩ := World.cells?_some hcells
      refine ⟨cs, typed_of_trod d e ks _ cs _ hk htr, fun j v hj => ?_⟩
      have hjl : j < cs.length := (List.getElem?_eq_some_iff.1 hj).1
      rw [hC] at hat
      rw [hat j (by omega)]; exact hj
    subst hL
    refine ⟨some a, L, cap, rfl, hl, hm, fun i h => (hp i h).1, fun h0 => ?_⟩
    have h1 := (hp 0 h0).2
    have hl0 := (hp 0 h0).1.length
    obtain ⟨u, hu⟩ : ∃ u, (L[0])[0]? = some u := ⟨(L[0])[0]'(by omega), List.getElem?_eq_getElem (by omega)⟩
    have hc0 := h1 0 u hu
    have e0 : (a.add (0 * ks.length)).add 0 = a := by simp [Addr.add]
    rw [e0] at hc0
    obtain ⟨hlt, hsp⟩ := cell_lt hc0
    obtain ⟨b, off, s⟩ := a
    simp only at hsp
    subst hsp
    refine ⟨b, off, rfl, hlt, fun i hi j v hj => ?_⟩
    have := (hp i hi).2 j v hj
    rw [add_plain (a := ⟨b, off, none⟩) rfl, add_plain (a := ⟨b, off + i * ks.length, none⟩) rfl] at this
    exact this

theorem struct_typed {r : Reach} {b0 : Nat} {t : TypeId} {fs : Array Field} {d : Nat} {ks : List Nat} {v : Value} {x : DataW H} {p : List MemPlace} (ht : P.underlying t = some (.struct fs)) (hk : flatKinds P d t = some ks)
    (hv : Value.okWide P w r b0 t v) (h : DataW.Trod enc P w base spare held t v x p) : ∃ vs : List Value, v = .agg vs.toArray ∧ Typed ks vs := by
  obtain ⟨cs, rfl, _⟩ := okWide_struct ht hv
  obtain ⟨fuel, hf⟩ := h
  exact ⟨cs.toList, by simp, typed_of_trod d t ks fuel cs.toList _ hk (by simpa [Value.cells] using hf)⟩
end
end Go.Proofs.YtokhnbdhcehonaaGreat
