/- The reference's methods, by value: contracts. -/
import Derived.Test.YtigdpmbhflojcaaObj
import Derived.Test.YtigdpmbhflojcaaProg
import Derived.WalkKit
import Derived.ProofKit
import Derived.Handy
import Derived.Lib.Hide
namespace Go.Proofs.Ytigdpmbhflojcaa
open Go Go.RowKit

def KeptR (x : St) (c q : Int) (b : ByteArray) (w : World) (e : Ending) (w' : World) : Prop :=
  e = .returned (.tuple #[.agg (refC (x.keep c q b)), .bool (x.may c q b)]) ∧ Below w.heap.size w w'
theorem KeptR.no {x : St} {c q : Int} {b : ByteArray} {w w' : World} (hb : Below w.heap.size w w') (h : ¬ (1 ≤ c ∧ c ≤ 4 ∧ x.seq c < q ∧ b.size ≤ 2048)) : KeptR x c q b w (.returned (.tuple #[.agg (refC x), .bool false])) w' :=
  ⟨by rw [may_no h, keep_no h], hb⟩
theorem KeptR.yes {x y : St} {c q : Int} {b : ByteArray} {w w' : World} (hb : Below w.heap.size w w') (h : 1 ≤ c ∧ c ≤ 4 ∧ x.seq c < q ∧ b.size ≤ 2048) (hy : x.put c q b = y) : KeptR x c q b w (.returned (.tuple #[.agg (refC y), .bool true])) w' :=
  ⟨by rw [may_yes h, keep_yes h, hy], hb⟩

set_option maxHeartbeats 2000000 in
theorem keep_ref (x : St) (c q : Int) (b : ByteArray) (w : World) :
    Calls Try.prog 9 #[.agg (refC x), .int .i64 c, .int .i64 q, .string b] w (KeptR x c q b w) := by
  obtain ⟨s1, b1, s2, b2, s3, b3, s4, b4⟩ := x
  simp only [refC]
  by_cases h1 : c < 1
  · have hn : ¬ (1 ≤ c ∧ c ≤ 4 ∧ (St.mk s1 b1 s2 b2 s3 b3 s4 b4).seq c < q ∧ b.size ≤ 2048) := fun h => by omega
    have HN := Lib.hid hn
    clear hn
    go_enter Try.func9, Try.ntmps9
    go_wp2
    go_returns
    exact KeptR.no (by go_grown) HN.out
  · by_cases h4 : 4 < c
    · have hn : ¬ (1 ≤ c ∧ c ≤ 4 ∧ (St.mk s1 b1 s2 b2 s3 b3 s4 b4).seq c < q ∧ b.size ≤ 2048) := fun h => by omega
      have HN := Lib.hid hn
      clear hn
      go_enter Try.func9, Try.ntmps9
      go_wp2
      go_returns
      exact KeptR.no (by go_grown) HN.out
    · have hc : c = 1 ∨ c = 2 ∨ c = 3 ∨ c = 4 := by omega
      clear h1 h4
      rcases hc with rfl | rfl | rfl | rfl
      · by_cases hq : s1 < q
        · by_cases hb : b.size ≤ 2048
          · have hm : (1 ≤ (1 : Int) ∧ (1 : Int) ≤ 4 ∧ (St.mk s1 b1 s2 b2 s3 b3 s4 b4).seq 1 < q ∧ b.size ≤ 2048) := ⟨by omega, by omega, hq, hb⟩
            have HM := Lib.hid hm
            clear hm
            go_enter Try.func9, Try.ntmps9
            go_wp2
            go_returns
            exact KeptR.yes (by go_grown) HM.out rfl
          · have hn : ¬ (1 ≤ (1 : Int) ∧ (1 : Int) ≤ 4 ∧ (St.mk s1 b1 s2 b2 s3 b3 s4 b4).seq 1 < q ∧ b.size ≤ 2048) := fun h => hb h.2.2.2
            have HN := Lib.hid hn
            clear hn
            go_enter Try.func9, Try.ntmps9
            go_wp2
            go_returns
            exact KeptR.no (by go_grown) HN.out
        · have hn : ¬ (1 ≤ (1 : Int) ∧ (1 : Int) ≤ 4 ∧ (St.mk s1 b1 s2 b2 s3 b3 s4 b4).seq 1 < q ∧ b.size ≤ 2048) := fun h => hq h.2.2.1
          have HN := Lib.hid hn
          clear hn
          go_enter Try.func9, Try.ntmps9
          go_wp2
          go_returns
          exact KeptR.no (by go_grown) HN.out
      · by_cases hq : s2 < q
        · by_cases hb : b.size ≤ 2048
          · have hm : (1 ≤ (2 : Int) ∧ (2 : Int) ≤ 4 ∧ (St.mk s1 b1 s2 b2 s3 b3 s4 b4).seq 2 < q ∧ b.size ≤ 2048) := ⟨by omega, by omega, hq, hb⟩
            have HM := Lib.hid hm
            clear hm
            go_enter Try.func9, Try.ntmps9
            go_wp2
            go_returns
            exact KeptR.yes (by go_grown) HM.out rfl
          · have hn : ¬ (1 ≤ (2 : Int) ∧ (2 : Int) ≤ 4 ∧ (St.mk s1 b1 s2 b2 s3 b3 s4 b4).seq 2 < q ∧ b.size ≤ 2048) := fun h => hb h.2.2.2
            have HN := Lib.hid hn
            clear hn
            go_enter Try.func9, Try.ntmps9
            go_wp2
            go_returns
            exact KeptR.no (by go_grown) HN.out
        · have hn : ¬ (1 ≤ (2 : Int) ∧ (2 : Int) ≤ 4 ∧ (St.mk s1 b1 s2 b2 s3 b3 s4 b4).seq 2 < q ∧ b.size ≤ 2048) := fun h => hq h.2.2.1
          have HN := Lib.hid hn
          clear hn
          go_enter Try.func9, Try.ntmps9
          go_wp2
          go_returns
          exact KeptR.no (by go_grown) HN.out
      · by_cases hq : s3 < q
        · by_cases hb : b.size ≤ 2048
          · have hm : (1 ≤ (3 : Int) ∧ (3 : Int) ≤ 4 ∧ (St.mk s1 b1 s2 b2 s3 b3 s4 b4).seq 3 < q ∧ b.size ≤ 2048) := ⟨by omega, by omega, hq, hb⟩
            have HM := Lib.hid hm
            clear hm
            go_enter Try.func9, Try.ntmps9
            go_wp2
            go_returns
            exact KeptR.yes (by go_grown) HM.out rfl
          · have hn : ¬ (1 ≤ (3 : Int) ∧ (3 : Int) ≤ 4 ∧ (St.mk s1 b1 s2 b2 s3 b3 s4 b4).seq 3 < q ∧ b.size ≤ 2048) := fun h => hb h.2.2.2
            have HN := Lib.hid hn
            clear hn
            go_enter Try.func9, Try.ntmps9
            go_wp2
            go_returns
            exact KeptR.no (by go_grown) HN.out
        · have hn : ¬ (1 ≤ (3 : Int) ∧ (3 : Int) ≤ 4 ∧ (St.mk s1 b1 s2 b2 s3 b3 s4 b4).seq 3 < q ∧ b.size ≤ 2048) := fun h => hq h.2.2.1
          have HN := Lib.hid hn
          clear hn
          go_enter Try.func9, Try.ntmps9
          go_wp2
          go_returns
          exact KeptR.no (by go_grown) HN.out
      · by_cases hq : s4 < q
        · by_cases hb : b.size ≤ 2048
          · have hm : (1 ≤ (4 : Int) ∧ (4 : Int) ≤ 4 ∧ (St.mk s1 b1 s2 b2 s3 b3 s4 b4).seq 4 < q ∧ b.size ≤ 2048) := ⟨by omega, by omega, hq, hb⟩
            have HM := Lib.hid hm
            clear hm
            go_enter Try.func9, Try.ntmps9
            go_wp2
            go_returns
            exact KeptR.yes (by go_grown) HM.out rfl
          · have hn : ¬ (1 ≤ (4 : Int) ∧ (4 : Int) ≤ 4 ∧ (St.mk s1 b1 s2 b2 s3 b3 s4 b4).seq 4 < q ∧ b.size ≤ 2048) := fun h => hb h.2.2.2
            have HN := Lib.hid hn
            clear hn
            go_enter Try.func9, Try.ntmps9
            go_wp2
            go_returns
            exact KeptR.no (by go_grown) HN.out
        · have hn : ¬ (1 ≤ (4 : Int) ∧ (4 : Int) ≤ 4 ∧ (St.mk s1 b1 s2 b2 s3 b3 s4 b4).seq 4 < q ∧ b.size ≤ 2048) := fun h => hq h.2.2.1
          have HN := Lib.hid hn
          clear hn
          go_enter Try.func9, Try.ntmps9
          go_wp2
          go_returns
          exact KeptR.no (by go_grown) HN.out

def GotR (x : St) (c q : Int) (w : World) (e : Ending) (w' : World) : Prop := e = .returned (gotV x c q) ∧ Below w.heap.size w w'
theorem GotR.no {x : St} {c q : Int} {w w' : World} (hb : Below w.heap.size w w') (h : ¬ (1 ≤ c ∧ c ≤ 4 ∧ q = x.seq c ∧ q ≠ 0)) : GotR x c q w (.returned (.tuple #[.string ⟨#[]⟩, .bool false])) w' := ⟨by rw [got_no h], hb⟩
theorem GotR.yes {x : St} {c q : Int} {u : ByteArray} {w w' : World} (hb : Below w.heap.size w w') (h : 1 ≤ c ∧ c ≤ 4 ∧ q = x.seq c ∧ q ≠ 0) (hu : x.body c = u) : GotR x c q w (.returned (.tuple #[.string u, .bool true])) w' := ⟨by rw [got_yes h, hu], hb⟩

set_option maxHeartbeats 2000000 in
theorem get_ref (x : St) (c q : Int) (w : World) :
    Calls Try.prog 12 #[.agg (refC x), .int .i64 c, .int .i64 q] w (GotR x c q w) := by
  obtain ⟨s1, b1, s2, b2, s3, b3, s4, b4⟩ := x
  simp only [refC]
  by_cases h1 : c < 1
  · have hn : ¬ (1 ≤ c ∧ c ≤ 4 ∧ q = (St.mk s1 b1 s2 b2 s3 b3 s4 b4).seq c ∧ q ≠ 0) := fun h => by omega
    have HN := Lib.hid hn
    clear hn
    go_enter Try.func12, Try.ntmps12
    go_wp2
    go_ret2
    exact GotR.no (by go_grown) HN.out
  · by_cases h4 : 4 < c
    · have hn : ¬ (1 ≤ c ∧ c ≤ 4 ∧ q = (St.mk s1 b1 s2 b2 s3 b3 s4 b4).seq c ∧ q ≠ 0) := fun h => by omega
      have HN := Lib.hid hn
      clear hn
      go_enter Try.func12, Try.ntmps12
      go_wp2
      go_ret2
      exact GotR.no (by go_grown) HN.out
    · have hc : c = 1 ∨ c = 2 ∨ c = 3 ∨ c = 4 := by omega
      clear h1 h4
      rcases hc with rfl | rfl | rfl | rfl
      · by_cases h0 : (q == 0) = true
        · have hn : ¬ (1 ≤ (1 : Int) ∧ (1 : Int) ≤ 4 ∧ q = (St.mk s1 b1 s2 b2 s3 b3 s4 b4).seq 1 ∧ q ≠ 0) := fun h => h.2.2.2 (by simpa using h0)
          have HN := Lib.hid hn
          clear hn
          go_enter Try.func12, Try.ntmps12
          go_wp2
          go_ret2
          exact GotR.no (by go_grown) HN.out
        · have h0 : (q == 0) = false := by simpa using h0
          by_cases hq : (q == s1) = true
          · have hq2 : (q != s1) = false := by simpa using hq
            have hm : (1 ≤ (1 : Int) ∧ (1 : Int) ≤ 4 ∧ q = (St.mk s1 b1 s2 b2 s3 b3 s4 b4).seq 1 ∧ q ≠ 0) := ⟨by omega, by omega, show q = s1 from by simpa using hq, by simpa using h0⟩
            have HM := Lib.hid hm
            clear hm
            go_enter Try.func12, Try.ntmps12
            go_wp2
            go_ret2
            exact GotR.yes (by go_grown) HM.out rfl
          · have hq2 : (q != s1) = true := by simpa using hq
            have hn : ¬ (1 ≤ (1 : Int) ∧ (1 : Int) ≤ 4 ∧ q = (St.mk s1 b1 s2 b2 s3 b3 s4 b4).seq 1 ∧ q ≠ 0) := fun h => hq (by have e : q = s1 := h.2.2.1; simpa using e)
            have HN := Lib.hid hn
            clear hn hq
            go_enter Try.func12, Try.ntmps12
            go_wp2
            go_ret2
            exact GotR.no (by go_grown) HN.out
      · by_cases h0 : (q == 0) = true
        · have hn : ¬ (1 ≤ (2 : Int) ∧ (2 : Int) ≤ 4 ∧ q = (St.mk s1 b1 s2 b2 s3 b3 s4 b4).seq 2 ∧ q ≠ 0) := fun h => h.2.2.2 (by simpa using h0)
          have HN := Lib.hid hn
          clear hn
          go_enter Try.func12, Try.ntmps12
          go_wp2
          go_ret2
          exact GotR.no (by go_grown) HN.out
        · have h0 : (q == 0) = false := by simpa using h0
          by_cases hq : (q == s2) = true
          · have hq2 : (q != s2) = false := by simpa using hq
            have hm : (1 ≤ (2 : Int) ∧ (2 : Int) ≤ 4 ∧ q = (St.mk s1 b1 s2 b2 s3 b3 s4 b4).seq 2 ∧ q ≠ 0) := ⟨by omega, by omega, show q = s2 from by simpa using hq, by simpa using h0⟩
            have HM := Lib.hid hm
            clear hm
            go_enter Try.func12, Try.ntmps12
            go_wp2
            go_ret2
            exact GotR.yes (by go_grown) HM.out rfl
          · have hq2 : (q != s2) = true := by simpa using hq
            have hn : ¬ (1 ≤ (2 : Int) ∧ (2 : Int) ≤ 4 ∧ q = (St.mk s1 b1 s2 b2 s3 b3 s4 b4).seq 2 ∧ q ≠ 0) := fun h => hq (by have e : q = s2 := h.2.2.1; simpa using e)
            have HN := Lib.hid hn
            clear hn hq
            go_enter Try.func12, Try.ntmps12
            go_wp2
            go_ret2
            exact GotR.no (by go_grown) HN.out
      · by_cases h0 : (q == 0) = true
        · have hn : ¬ (1 ≤ (3 : Int) ∧ (3 : Int) ≤ 4 ∧ q = (St.mk s1 b1 s2 b2 s3 b3 s4 b4).seq 3 ∧ q ≠ 0) := fun h => h.2.2.2 (by simpa using h0)
          have HN := Lib.hid hn
          clear hn
          go_enter Try.func12, Try.ntmps12
          go_wp2
          go_ret2
          exact GotR.no (by go_grown) HN.out
        · have h0 : (q == 0) = false := by simpa using h0
          by_cases hq : (q == s3) = true
          · have hq2 : (q != s3) = false := by simpa using hq
            have hm : (1 ≤ (3 : Int) ∧ (3 : Int) ≤ 4 ∧ q = (St.mk s1 b1 s2 b2 s3 b3 s4 b4).seq 3 ∧ q ≠ 0) := ⟨by omega, by omega, show q = s3 from by simpa using hq, by simpa using h0⟩
            have HM := Lib.hid hm
            clear hm
            go_enter Try.func12, Try.ntmps12
            go_wp2
            go_ret2
            exact GotR.yes (by go_grown) HM.out rfl
          · have hq2 : (q != s3) = true := by simpa using hq
            have hn : ¬ (1 ≤ (3 : Int) ∧ (3 : Int) ≤ 4 ∧ q = (St.mk s1 b1 s2 b2 s3 b3 s4 b4).seq 3 ∧ q ≠ 0) := fun h => hq (by have e : q = s3 := h.2.2.1; simpa using e)
            have HN := Lib.hid hn
            clear hn hq
            go_enter Try.func12, Try.ntmps12
            go_wp2
            go_ret2
            exact GotR.no (by go_grown) HN.out
      · by_cases h0 : (q == 0) = true
        · have hn : ¬ (1 ≤ (4 : Int) ∧ (4 : Int) ≤ 4 ∧ q = (St.mk s1 b1 s2 b2 s3 b3 s4 b4).seq 4 ∧ q ≠ 0) := fun h => h.2.2.2 (by simpa using h0)
          have HN := Lib.hid hn
          clear hn
          go_enter Try.func12, Try.ntmps12
          go_wp2
          go_ret2
          exact GotR.no (by go_grown) HN.out
        · have h0 : (q == 0) = false := by simpa using h0
          by_cases hq : (q == s4) = true
          · have hq2 : (q != s4) = false := by simpa using hq
            have hm : (1 ≤ (4 : Int) ∧ (4 : Int) ≤ 4 ∧ q = (St.mk s1 b1 s2 b2 s3 b3 s4 b4).seq 4 ∧ q ≠ 0) := ⟨by omega, by omega, show q = s4 from by simpa using hq, by simpa using h0⟩
            have HM := Lib.hid hm
            clear hm
            go_enter Try.func12, Try.ntmps12
            go_wp2
            go_ret2
            exact GotR.yes (by go_grown) HM.out rfl
          · have hq2 : (q != s4) = true := by simpa using hq
            have hn : ¬ (1 ≤ (4 : Int) ∧ (4 : Int) ≤ 4 ∧ q = (St.mk s1 b1 s2 b2 s3 b3 s4 b4).seq 4 ∧ q ≠ 0) := fun h => hq (by have e : q = s4 := h.2.2.1; simpa using e)
            have HN := Lib.hid hn
            clear hn hq
            go_enter Try.func12, Try.ntmps12
            go_wp2
            go_ret2
            exact GotR.no (by go_grown) HN.out

def LastR (x : St) (c : Int) (w : World) (e : Ending) (w' : World) : Prop := e = .returned (.int .i64 (x.seq c)) ∧ Below w.heap.size w w'
theorem LastR.mk_ {x : St} {c s : Int} {w w' : World} (hb : Below w.heap.size w w') (h : x.seq c = s) : LastR x c w (.returned (.int .i64 s)) w' := ⟨by rw [h], hb⟩
theorem seq_out (x : St) (c : Int) (h : c < 1 ∨ 4 < c) : x.seq c = 0 := by
  unfold St.seq
  rw [if_neg (by omega), if_neg (by omega), if_neg (by omega), if_neg (by omega)]
set_option maxHeartbeats 2000000 in
theorem last_ref (x : St) (c : Int) (w : World) :
    Calls Try.prog 14 #[.agg (refC x), .int .i64 c] w (LastR x c w) := by
  obtain ⟨s1, b1, s2, b2, s3, b3, s4, b4⟩ := x
  simp only [refC]
  by_cases h1 : c < 1
  · have hs := seq_out (St.mk s1 b1 s2 b2 s3 b3 s4 b4) c (.inl h1)
    have HS := Lib.hid hs
    clear hs
    go_enter Try.func14, Try.ntmps14
    go_wp2
    go_ret
    exact LastR.mk_ (by go_grown) HS.out
  · by_cases h4 : 4 < c
    · have hs := seq_out (St.mk s1 b1 s2 b2 s3 b3 s4 b4) c (.inr h4)
      have HS := Lib.hid hs
      clear hs
      go_enter Try.func14, Try.ntmps14
      go_wp2
      go_ret
      exact LastR.mk_ (by go_grown) HS.out
    · have hc : c = 1 ∨ c = 2 ∨ c = 3 ∨ c = 4 := by omega
      clear h1 h4
      rcases hc with rfl | rfl | rfl | rfl
      all_goals
        go_enter Try.func14, Try.ntmps14
        go_wp2
        go_ret
        exact LastR.mk_ (by go_grown) rfl
end Go.Proofs.Ytigdpmbhflojcaa
