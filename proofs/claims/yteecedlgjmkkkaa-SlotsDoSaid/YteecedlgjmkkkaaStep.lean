/- A step, of both sides. -/
import Derived.Test.YteecedlgjmkkkaaRef
namespace Go.Proofs.Yteecedlgjmkkkaa
open Go Go.RowKit

def lst (l : List Nat) : Option Nat := l.findIdx? (· == 0)
theorem lst_some {l : List Nat} {k : Nat} (h : l[k]? = some 0) (hn : ∀ j : Nat, j < k → l[j]? ≠ some 0) : lst l = some k := by
  unfold lst
  rw [List.findIdx?_eq_some_iff_getElem]
  obtain ⟨hk, h⟩ := List.getElem?_eq_some_iff.1 h
  refine ⟨hk, by simp [h], fun j hj => ?_⟩
  have := hn j hj
  rw [List.getElem?_eq_getElem (by omega)] at this
  simpa using this
theorem lst_none {l : List Nat} (hn : ∀ j : Nat, l[j]? ≠ some 0) : lst l = none := by
  unfold lst
  rw [List.findIdx?_eq_none_iff]
  intro x hx
  obtain ⟨j, hj, rfl⟩ := List.getElem_of_mem hx
  have := hn j
  rw [List.getElem?_eq_getElem hj] at this
  simpa using this

def step (l : List Nat) (kind i : Int) : List Nat × Int × Bool :=
  if kind = 1 then (if 0 ≤ i ∧ l[i.toNat]? = some 0 then (l.set i.toNat 1, 0, true) else (l, 0, false))
  else if kind = 2 then (if 0 ≤ i ∧ l[i.toNat]? = some 1 then (l.set i.toNat 2, 0, true) else (l, 0, false))
  else if kind = 3 then (l.map fx, ((l.count 2 : Nat) : Int), true)
  else match lst l with
    | some k => (l.set k 1, (k : Int), true)
    | none => (l, 0, false)
theorem step_len (l : List Nat) (kind i : Int) : (step l kind i).1.length = l.length := by
  unfold step
  repeat' split
  all_goals simp

/-- below B nothing but blocks g and r has turned -/
structure Over (B g r : Nat) (w w' : World) : Prop where
  os : w'.os = w.os
  tape : w'.tape = w.tape
  output : w'.output = w.output
  size : w.heap.size ≤ w'.heap.size
  block : ∀ k, k < B → k ≠ g → k ≠ r → w'.heap[k]? = w.heap[k]?
theorem Only.over {g r : Nat} {w w0 w' : World} (h : Only g r w0 w') (hb : Below w.heap.size w w0) : Over w.heap.size g r w w' :=
  ⟨h.os.trans hb.os, h.tape.trans hb.tape, h.output.trans hb.output, by rw [h.size]; exact hb.size, fun k hk hg hr => (h.block k hg hr).trans (hb.block k hk)⟩
theorem Over.of {g r B : Nat} {w w' : World} (hb : Below B w w') : Over B g r w w' :=
  ⟨hb.os, hb.tape, hb.output, hb.size, fun k hk _ _ => hb.block k hk⟩
theorem Over.below {g r B B' : Nat} {w w' : World} (h : Over B' g r w w') (hB : B ≤ B') (hg : B ≤ g) (hr : B ≤ r) : Below B w w' :=
  ⟨h.os, h.tape, h.output, h.size, fun k hk => h.block k (by omega) (by omega) (by omega)⟩

def StepV (g r : Nat) (l : List Nat) (kind i : Int) (w : World) (e : Ending) (w' : World) : Prop :=
  e = .returned (.tuple #[.int .i64 (step l kind i).2.1, .bool (step l kind i).2.2]) ∧ Over w.heap.size g r w w' ∧ At w' g r (step l kind i).1

theorem do_use (g r : Nat) (l : List Nat) (kind i : Int) (w : World) (hat : At w g r l) (h1 : (kind == 1) = true) :
    Calls Try.prog 11 #[.pointer (some ⟨g, 0, none⟩), .agg #[.int .i64 kind, .int .i64 i]] w (StepV g r l kind i w) := by
  have hb : Below w.heap.size w (w.alloc (.cells #[.int .i64 kind, .int .i64 i] 36)) := by go_grown
  have HT := Lib.hid (use_any g r i l _ (hat.below hb))
  have HB := Lib.hid (And.intro hb hat)
  clear hb hat
  have hk : kind = 1 := by simpa using h1
  have hs : step l kind i = (if 0 ≤ i ∧ l[i.toNat]? = some 0 then (l.set i.toNat 1, 0, true) else (l, 0, false)) := by rw [step, if_pos hk]
  have HS := Lib.hid hs
  clear hs hk
  go_enter Try.func11, Try.ntmps11
  go_wp2_with fail
  refine HT.out.mono ?_
  rintro e w' (⟨h0, h1, rfl, h2, h3⟩ | ⟨h0, rfl, rfl⟩)
  · have hh := Lib.hid (And.intro (And.intro h0 h1) (And.intro h2 h3))
    clear h0 h1 h2 h3
    go_wp2_with fail
    go_ret2
    unfold StepV
    rw [HS.out, if_pos hh.out.1]
    exact ⟨rfl, hh.out.2.1.over HB.out.1, hh.out.2.2⟩
  · have hh := Lib.hid h0
    clear h0
    go_wp2_with fail
    go_ret2
    unfold StepV
    rw [HS.out, if_neg hh.out]
    exact ⟨rfl, Over.of HB.out.1, HB.out.2.below HB.out.1⟩
theorem do_give (g r : Nat) (l : List Nat) (kind i : Int) (w : World) (hat : At w g r l) (h1 : (kind == 1) = false) (h2 : (kind == 2) = true) :
    Calls Try.prog 11 #[.pointer (some ⟨g, 0, none⟩), .agg #[.int .i64 kind, .int .i64 i]] w (StepV g r l kind i w) := by
  have hb : Below w.heap.size w (w.alloc (.cells #[.int .i64 kind, .int .i64 i] 36)) := by go_grown
  have HT := Lib.hid (give_any g r i l _ (hat.below hb))
  have HB := Lib.hid (And.intro hb hat)
  clear hb hat
  have hs : step l kind i = (if 0 ≤ i ∧ l[i.toNat]? = some 1 then (l.set i.toNat 2, 0, true) else (l, 0, false)) := by rw [step, if_neg (by simpa using h1), if_pos (by simpa using h2)]
  have HS := Lib.hid hs
  clear hs
  go_enter Try.func11, Try.ntmps11
  go_wp2_with fail
  refine HT.out.mono ?_
  rintro e w' (⟨h0, h1, rfl, h2, h3⟩ | ⟨h0, rfl, rfl⟩)
  · have hh := Lib.hid (And.intro (And.intro h0 h1) (And.intro h2 h3))
    clear h0 h1 h2 h3
    go_wp2_with fail
    go_ret2
    unfold StepV
    rw [HS.out, if_pos hh.out.1]
    exact ⟨rfl, hh.out.2.1.over HB.out.1, hh.out.2.2⟩
  · have hh := Lib.hid h0
    clear h0
    go_wp2_with fail
    go_ret2
    unfold StepV
    rw [HS.out, if_neg hh.out]
    exact ⟨rfl, Over.of HB.out.1, HB.out.2.below HB.out.1⟩
theorem do_settle (g r : Nat) (l : List Nat) (kind i : Int) (w : World) (hat : At w g r l) (h1 : (kind == 1) = false) (h2 : (kind == 2) = false) (h3 : (kind == 3) = true) :
    Calls Try.prog 11 #[.pointer (some ⟨g, 0, none⟩), .agg #[.int .i64 kind, .int .i64 i]] w (StepV g r l kind i w) := by
  have hb : Below w.heap.size w (w.alloc (.cells #[.int .i64 kind, .int .i64 i] 36)) := by go_grown
  have HT := Lib.hid (settle_any g r l _ (hat.below hb))
  have HB := Lib.hid (And.intro hb hat)
  clear hb hat
  have hs : step l kind i = (l.map fx, ((l.count 2 : Nat) : Int), true) := by rw [step, if_neg (by simpa using h1), if_neg (by simpa using h2), if_pos (by simpa using h3)]
  have HS := Lib.hid hs
  clear hs
  go_enter Try.func11, Try.ntmps11
  go_wp2_with fail
  refine HT.out.mono ?_
  rintro e w' ⟨rfl, h4, h5⟩
  have hh := Lib.hid (And.intro h4 h5)
  clear h4 h5
  go_wp2_with fail
  go_ret2
  unfold StepV
  rw [HS.out]
  exact ⟨rfl, hh.out.1.over HB.out.1, hh.out.2⟩
theorem do_take (g r : Nat) (l : List Nat) (kind i : Int) (w : World) (hat : At w g r l) (h1 : (kind == 1) = false) (h2 : (kind == 2) = false) (h3 : (kind == 3) = false) :
    Calls Try.prog 11 #[.pointer (some ⟨g, 0, none⟩), .agg #[.int .i64 kind, .int .i64 i]] w (StepV g r l kind i w) := by
  have hb : Below w.heap.size w (w.alloc (.cells #[.int .i64 kind, .int .i64 i] 36)) := by go_grown
  have HT := Lib.hid (take_any g r l _ (hat.below hb))
  have HB := Lib.hid (And.intro hb hat)
  clear hb hat
  have hs : step l kind i = (match lst l with | some k => (l.set k 1, (k : Int), true) | none => (l, 0, false)) := by rw [step, if_neg (by simpa using h1), if_neg (by simpa using h2), if_neg (by simpa using h3)]
  have HS := Lib.hid hs
  clear hs
  go_enter Try.func11, Try.ntmps11
  go_wp2_with fail
  refine HT.out.mono ?_
  rintro e w' (⟨k, h4, h5, rfl, h6, h7⟩ | ⟨h4, rfl, rfl⟩)
  · have hh := Lib.hid (And.intro (lst_some h4 h5) (And.intro h6 h7))
    clear h4 h5 h6 h7
    go_wp2_with fail
    go_ret2
    unfold StepV
    rw [HS.out, hh.out.1]
    exact ⟨rfl, hh.out.2.1.over HB.out.1, hh.out.2.2⟩
  · have hh := Lib.hid (lst_none h4)
    clear h4
    go_wp2_with fail
    go_ret2
    unfold StepV
    rw [HS.out, hh.out]
    exact ⟨rfl, Over.of HB.out.1, HB.out.2.below HB.out.1⟩
theorem do_any (g r : Nat) (l : List Nat) (kind i : Int) (w : World) (hat : At w g r l) :
    Calls Try.prog 11 #[.pointer (some ⟨g, 0, none⟩), .agg #[.int .i64 kind, .int .i64 i]] w (StepV g r l kind i w) := by
  cases h1 : (kind == 1) with
  | true => exact do_use g r l kind i w hat h1
  | false =>
    cases h2 : (kind == 2) with
    | true => exact do_give g r l kind i w hat h1 h2
    | false =>
      cases h3 : (kind == 3) with
      | true => exact do_settle g r l kind i w hat h1 h2 h3
      | false => exact do_take g r l kind i w hat h1 h2 h3
end Go.Proofs.Yteecedlgjmkkkaa
