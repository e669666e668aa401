/- replay.Answers and the reference's: what they hold, and the contracts of their methods. -/
import Derived.Test.YtigdpmbhflojcaaProg
import Derived.WalkKit
import Derived.ProofKit
import Derived.Handy
import Derived.Lib.Hide
namespace Go.Proofs.Ytigdpmbhflojcaa
open Go Go.RowKit

structure St where
  s1 : Int
  b1 : ByteArray
  s2 : Int
  b2 : ByteArray
  s3 : Int
  b3 : ByteArray
  s4 : Int
  b4 : ByteArray
def St.new : St := ⟨0, ⟨#[]⟩, 0, ⟨#[]⟩, 0, ⟨#[]⟩, 0, ⟨#[]⟩⟩
def St.seq (x : St) (c : Int) : Int := if c = 1 then x.s1 else if c = 2 then x.s2 else if c = 3 then x.s3 else if c = 4 then x.s4 else 0
def St.body (x : St) (c : Int) : ByteArray := if c = 1 then x.b1 else if c = 2 then x.b2 else if c = 3 then x.b3 else if c = 4 then x.b4 else ⟨#[]⟩
def St.put (x : St) (c q : Int) (b : ByteArray) : St :=
  if c = 1 then { x with s1 := q, b1 := b } else if c = 2 then { x with s2 := q, b2 := b } else if c = 3 then { x with s3 := q, b3 := b } else if c = 4 then { x with s4 := q, b4 := b } else x
def St.may (x : St) (c q : Int) (b : ByteArray) : Bool := decide (1 ≤ c ∧ c ≤ 4 ∧ x.seq c < q ∧ b.size ≤ 2048)
def St.keep (x : St) (c q : Int) (b : ByteArray) : St := if x.may c q b then x.put c q b else x
def St.has (x : St) (c q : Int) : Bool := decide (1 ≤ c ∧ c ≤ 4 ∧ q = x.seq c ∧ q ≠ 0)
def St.got (x : St) (c q : Int) : ByteArray := if x.has c q then x.body c else ⟨#[]⟩

def objC (x : St) : Array Value := #[.int .i64 x.s1, .string x.b1, .int .i64 x.s2, .string x.b2, .int .i64 x.s3, .string x.b3, .int .i64 x.s4, .string x.b4]
def refC (x : St) : Array Value := #[.int .i64 0, .int .i64 x.s1, .int .i64 x.s2, .int .i64 x.s3, .int .i64 x.s4, .string ⟨#[]⟩, .string x.b1, .string x.b2, .string x.b3, .string x.b4]

/-- nothing but block g has turned -/
structure Only (g : Nat) (w w' : World) : Prop where
  os : w'.os = w.os
  tape : w'.tape = w.tape
  output : w'.output = w.output
  size : w'.heap.size = w.heap.size
  block : ∀ k, k ≠ g → w'.heap[k]? = w.heap[k]?
theorem Only.refl (g : Nat) (w : World) : Only g w w := ⟨rfl, rfl, rfl, rfl, fun _ _ => rfl⟩
theorem Only.set {g : Nat} {w w' : World} (h : Only g w w') (o : Nat) (v : Value) : Only g w (w'.setCell ⟨g, o, none⟩ v) :=
  ⟨h.os, h.tape, h.output, by simpa [World.setCell] using h.size, fun k hk => (Below.heap_setCell _ _ _ _ (by simpa using hk)).trans (h.block k hk)⟩
theorem Only.below {g B : Nat} {w w' : World} (h : Only g w w') (hg : B ≤ g) : Below B w w' :=
  ⟨h.os, h.tape, h.output, by rw [h.size]; exact Nat.le_refl _, fun k hk => h.block k (by omega)⟩

theorem cell_at {w : World} {b : Nat} {C : Array Value} {t : TypeId} (h : w.heap[b]? = some (.cells C t)) (o : Nat) : w.cell? ⟨b, o, none⟩ = C[o]? := by
  unfold World.cell?; simp [h]
theorem froz_at {w : World} {b : Nat} {C : Array Value} {t : TypeId} (h : w.heap[b]? = some (.cells C t)) (o : Nat) : w.frozen? ⟨b, o, none⟩ = false := by
  unfold World.frozen?; simp [h]
theorem set_at {w : World} {b : Nat} {C : Array Value} {t : TypeId} (h : w.heap[b]? = some (.cells C t)) (o : Nat) (v : Value) : (w.setCell ⟨b, o, none⟩ v).heap[b]? = some (.cells (C.setIfInBounds o v) t) := by
  unfold World.setCell
  simp [Array.getElem?_modify, h]

/-- the object at block g -/
def At (w : World) (g : Nat) (x : St) : Prop := w.heap[g]? = some (.cells (objC x) 45)

def KeepV (g : Nat) (x : St) (c q : Int) (b : ByteArray) (w : World) (e : Ending) (w' : World) : Prop :=
  e = .returned (.bool (x.may c q b)) ∧ Only g w w' ∧ At w' g (x.keep c q b)

theorem may_no {x : St} {c q : Int} {b : ByteArray} (h : ¬ (1 ≤ c ∧ c ≤ 4 ∧ x.seq c < q ∧ b.size ≤ 2048)) : x.may c q b = false := by unfold St.may; simpa using h
theorem may_yes {x : St} {c q : Int} {b : ByteArray} (h : 1 ≤ c ∧ c ≤ 4 ∧ x.seq c < q ∧ b.size ≤ 2048) : x.may c q b = true := by unfold St.may; simpa using h
theorem keep_no {x : St} {c q : Int} {b : ByteArray} (h : ¬ (1 ≤ c ∧ c ≤ 4 ∧ x.seq c < q ∧ b.size ≤ 2048)) : x.keep c q b = x := by unfold St.keep; rw [may_no h]; rfl
theorem keep_yes {x : St} {c q : Int} {b : ByteArray} (h : 1 ≤ c ∧ c ≤ 4 ∧ x.seq c < q ∧ b.size ≤ 2048) : x.keep c q b = x.put c q b := by unfold St.keep; rw [may_yes h]; rfl

theorem KeepV.no {g : Nat} {x : St} {c q : Int} {b : ByteArray} {w : World} (hat : At w g x) (h : ¬ (1 ≤ c ∧ c ≤ 4 ∧ x.seq c < q ∧ b.size ≤ 2048)) : KeepV g x c q b w (.returned (.bool false)) w :=
  ⟨by rw [may_no h], Only.refl _ _, by rw [keep_no h]; exact hat⟩

set_option maxHeartbeats 800000 in
theorem keep_in (g : Nat) (x : St) (q : Int) (b : ByteArray) (w : World) (hat : At w g x) (k : Nat) (hk4 : k < 4) (s : Int) (hs : x.seq (k + 1) = s) (u : Value)
    (h1 : w.cell? ⟨g, k * 2, none⟩ = some (.int .i64 s)) (h2 : w.cell? ⟨g, k * 2 + 1, none⟩ = some u) (hput : objC (x.put (k + 1) q b) = ((objC x).setIfInBounds (k * 2) (.int .i64 q)).setIfInBounds (k * 2 + 1) (.string b)) :
    Calls Try.prog 10 #[.pointer (some ⟨g, 0, none⟩), .int .i64 (k + 1), .int .i64 q, .string b] w (KeepV g x (k + 1) q b w) := by
  have HS := Lib.hid hs
  have HP := Lib.hid hput
  have HA := Lib.hid hat
  have f1 := froz_at hat (k * 2)
  have f2 := froz_at hat (k * 2 + 1)
  clear hs hput hat
  by_cases hq : s < q
  · by_cases hb : b.size ≤ 2048
    · go_enter Try.func10, Try.ntmps10
      go_wp2
      go_ret
      have hm : (1 ≤ (k : Int) + 1 ∧ (k : Int) + 1 ≤ 4 ∧ x.seq (k + 1) < q ∧ b.size ≤ 2048) := ⟨by omega, by omega, by rw [HS.out]; exact hq, hb⟩
      refine ⟨by rw [may_yes hm]; rfl, ((Only.refl g w).set _ _).set _ _, ?_⟩
      rw [keep_yes hm]
      unfold At
      rw [HP.out]
      exact set_at (set_at HA.out _ _) _ _
    · go_enter Try.func10, Try.ntmps10
      go_wp2
      go_ret
      exact KeepV.no HA.out fun h => hb h.2.2.2
  · go_enter Try.func10, Try.ntmps10
    go_wp2
    go_ret
    exact KeepV.no HA.out fun h => by have := h.2.2.1; rw [HS.out] at this; omega

theorem keep_obj (g : Nat) (x : St) (c q : Int) (b : ByteArray) (w : World) (hat : At w g x) :
    Calls Try.prog 10 #[.pointer (some ⟨g, 0, none⟩), .int .i64 c, .int .i64 q, .string b] w (KeepV g x c q b w) := by
  by_cases h1 : c < 1
  · have HA := Lib.hid hat
    clear hat
    go_enter Try.func10, Try.ntmps10
    go_wp2
    go_ret
    exact KeepV.no HA.out fun h => by omega
  · by_cases h4 : 4 < c
    · have HA := Lib.hid hat
      clear hat
      go_enter Try.func10, Try.ntmps10
      go_wp2
      go_ret
      exact KeepV.no HA.out fun h => by omega
    · have hc : c = 1 ∨ c = 2 ∨ c = 3 ∨ c = 4 := by omega
      have ca := cell_at hat
      rcases hc with rfl | rfl | rfl | rfl
      · exact keep_in g x q b w hat 0 (by omega) x.s1 rfl _ (ca 0) (ca 1) rfl
      · exact keep_in g x q b w hat 1 (by omega) x.s2 rfl _ (ca 2) (ca 3) rfl
      · exact keep_in g x q b w hat 2 (by omega) x.s3 rfl _ (ca 4) (ca 5) rfl
      · exact keep_in g x q b w hat 3 (by omega) x.s4 rfl _ (ca 6) (ca 7) rfl

def gotV (x : St) (c q : Int) : Value := .tuple #[.string (x.got c q), .bool (x.has c q)]
theorem got_no {x : St} {c q : Int} (h : ¬ (1 ≤ c ∧ c ≤ 4 ∧ q = x.seq c ∧ q ≠ 0)) : gotV x c q = .tuple #[.string ⟨#[]⟩, .bool false] := by
  have : x.has c q = false := by unfold St.has; simpa using h
  unfold gotV St.got
  rw [this]; rfl
theorem got_yes {x : St} {c q : Int} (h : 1 ≤ c ∧ c ≤ 4 ∧ q = x.seq c ∧ q ≠ 0) : gotV x c q = .tuple #[.string (x.body c), .bool true] := by
  have : x.has c q = true := by unfold St.has; simpa using h
  unfold gotV St.got
  rw [this]; rfl

theorem get_in (g : Nat) (x : St) (q : Int) (w : World) (k : Nat) (hk4 : k < 4) (s : Int) (hs : x.seq (k + 1) = s) (u : ByteArray) (hu : x.body (k + 1) = u)
    (h1 : w.cell? ⟨g, k * 2, none⟩ = some (.int .i64 s)) (h2 : w.cell? ⟨g, k * 2 + 1, none⟩ = some (.string u)) :
    Calls Try.prog 11 #[.pointer (some ⟨g, 0, none⟩), .int .i64 (k + 1), .int .i64 q] w fun e w' => e = .returned (gotV x (k + 1) q) ∧ w = w' := by
  have HS := Lib.hid hs
  have HU := Lib.hid hu
  clear hs hu
  by_cases hq : (q == s) = true
  · have hq2 : (q != s) = false := by simpa using hq
    by_cases h0 : (q == 0) = true
    · go_enter Try.func11, Try.ntmps11
      go_wp2
      go_ret2
      exact ⟨by rw [got_no (fun h => h.2.2.2 (by simpa using h0))]; rfl, rfl⟩
    · have h0 : (q == 0) = false := by simpa using h0
      go_enter Try.func11, Try.ntmps11
      go_wp2
      go_ret2
      refine ⟨?_, rfl⟩
      rw [got_yes ⟨by omega, by omega, by rw [HS.out]; simpa using hq, by simpa using h0⟩, HU.out]
      rfl
  · have hq2 : (q != s) = true := by simpa using hq
    go_enter Try.func11, Try.ntmps11
    go_wp2
    go_ret2
    exact ⟨by rw [got_no (fun h => hq (by rw [← HS.out]; simpa using h.2.2.1))]; rfl, rfl⟩

theorem get_obj (g : Nat) (x : St) (c q : Int) (w : World) (hat : At w g x) :
    Calls Try.prog 11 #[.pointer (some ⟨g, 0, none⟩), .int .i64 c, .int .i64 q] w fun e w' => e = .returned (gotV x c q) ∧ w = w' := by
  by_cases h1 : c < 1
  · clear hat
    go_enter Try.func11, Try.ntmps11
    go_wp2
    go_ret2
    exact ⟨by rw [got_no (fun h => by omega)]; rfl, rfl⟩
  · by_cases h4 : 4 < c
    · clear hat
      go_enter Try.func11, Try.ntmps11
      go_wp2
      go_ret2
      exact ⟨by rw [got_no (fun h => by omega)]; rfl, rfl⟩
    · have hc : c = 1 ∨ c = 2 ∨ c = 3 ∨ c = 4 := by omega
      have ca := cell_at hat
      rcases hc with rfl | rfl | rfl | rfl
      · exact get_in g x q w 0 (by omega) x.s1 rfl _ rfl (ca 0) (ca 1)
      · exact get_in g x q w 1 (by omega) x.s2 rfl _ rfl (ca 2) (ca 3)
      · exact get_in g x q w 2 (by omega) x.s3 rfl _ rfl (ca 4) (ca 5)
      · exact get_in g x q w 3 (by omega) x.s4 rfl _ rfl (ca 6) (ca 7)

theorem last_in (g : Nat) (w : World) (k : Nat) (hk4 : k < 4) (s : Int) (h1 : w.cell? ⟨g, k * 2, none⟩ = some (.int .i64 s)) :
    Calls Try.prog 13 #[.pointer (some ⟨g, 0, none⟩), .int .i64 (k + 1)] w fun e w' => e = .returned (.int .i64 s) ∧ w = w' := by
  go_enter Try.func13, Try.ntmps13
  go_wp2
  go_ret
  exact ⟨rfl, rfl⟩
theorem last_obj (g : Nat) (x : St) (c : Int) (w : World) (hat : At w g x) :
    Calls Try.prog 13 #[.pointer (some ⟨g, 0, none⟩), .int .i64 c] w fun e w' => e = .returned (.int .i64 (x.seq c)) ∧ w = w' := by
  by_cases h1 : c < 1
  · have hs : x.seq c = 0 := by unfold St.seq; (repeat rw [if_neg (by omega)])
    rw [hs]
    clear hat hs
    go_enter Try.func13, Try.ntmps13
    go_wp2
    go_ret
    exact ⟨rfl, rfl⟩
  · by_cases h4 : 4 < c
    · have hs : x.seq c = 0 := by unfold St.seq; (repeat rw [if_neg (by omega)])
      rw [hs]
      clear hat hs
      go_enter Try.func13, Try.ntmps13
      go_wp2
      go_ret
      exact ⟨rfl, rfl⟩
    · have hc : c = 1 ∨ c = 2 ∨ c = 3 ∨ c = 4 := by omega
      have ca := cell_at hat
      rcases hc with rfl | rfl | rfl | rfl
      · exact last_in g w 0 (by omega) x.s1 (ca 0)
      · exact last_in g w 1 (by omega) x.s2 (ca 2)
      · exact last_in g w 2 (by omega) x.s3 (ca 4)
      · exact last_in g w 3 (by omega) x.s4 (ca 6)

theorem new_any (w : World) : Calls Try.prog 8 #[] w fun e w' => e = .returned (.pointer (some ⟨w.heap.size, 0, none⟩)) ∧ w' = w.alloc (.cells (objC St.new) 45) := by
  go_enter Try.func8, Try.ntmps8
  go_wp2
  go_ret
  exact ⟨rfl, rfl⟩
end Go.Proofs.Ytigdpmbhflojcaa
