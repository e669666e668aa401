/- The law's guard. -/
import Derived.Test.YtigdpmbhflojcaaObj
import Derived.Test.YtigdpmbhflojcaaOpen
import Derived.Test.YtigdpmbhflojcaaProg
import Derived.WalkKit
import Derived.ProofKit
import Derived.Handy
import Derived.Lib.Hide
namespace Go.Proofs.Ytigdpmbhflojcaa
open Go Go.RowKit

/-- a step as it lies in memory -/
structure Stp where
  c : Int
  q : Int
  b : ByteArray
def Stp.row (x : Stp) : List Value := [.int .i64 x.c, .int .i64 x.q, .string x.b]
theorem stp_of_typed {vs : List Value} (h : Typed [2, 2, 1] vs) : ∃ x : Stp, vs = x.row ∧ x.b.size ≤ maxLen := by
  match vs, h with
  | [v0, v1, v2], ⟨h0, h1, h2, _⟩ =>
    cases v0 <;> simp [leafOk] at h0
    cases v1 <;> simp [leafOk] at h1
    cases v2 <;> simp [leafOk] at h2
    obtain ⟨rfl, _⟩ := h0
    obtain ⟨rfl, _⟩ := h1
    exact ⟨⟨_, _, _⟩, rfl, h2⟩
theorem steps_of_rows (R : List (List Value)) (h : ∀ (i : Nat) (hi : i < R.length), Typed [2, 2, 1] R[i]) : ∃ L : List Stp, R = L.map Stp.row ∧ ∀ x ∈ L, x.b.size ≤ maxLen := by
  induction R with
  | nil => exact ⟨[], rfl, by simp⟩
  | cons r R ih =>
    obtain ⟨L, rfl, hL⟩ := ih fun i hi => h (i + 1) (by simpa using hi)
    obtain ⟨x, hx, hb⟩ := stp_of_typed (h 0 (by simp))
    exact ⟨x :: L, by simp [← hx], by simpa using ⟨hb, hL⟩⟩
def StepsAt (w : World) (A : Option Addr) (L : List Stp) : Prop := RowsAt w A 3 (L.map Stp.row)
theorem StepsAt.at_ {w : World} {A : Option Addr} {L : List Stp} (h : StepsAt w A L) {k : Nat} (hk : k < L.length) :
    ∃ b off, A = some ⟨b, off, none⟩ ∧ b < w.heap.size ∧ w.cell? ⟨b, off + k * 3, none⟩ = some (.int .i64 L[k].c) ∧ w.cell? ⟨b, off + k * 3 + 1, none⟩ = some (.int .i64 L[k].q) ∧ w.cell? ⟨b, off + k * 3 + 2, none⟩ = some (.string L[k].b) := by
  obtain ⟨b, off, rfl, hlt, hc⟩ := h (by simpa using by omega)
  have hc := hc k (by simpa using hk)
  simp only [List.getElem_map] at hc
  exact ⟨b, off, rfl, hlt, hc 0 _ rfl, hc 1 _ rfl, hc 2 _ rfl⟩

def SomeB (w : World) (e : Ending) (w' : World) : Prop := ∃ b : Bool, e = .returned (.bool b) ∧ w = w'

set_option maxHeartbeats 800000 in
theorem large_any (A : Option Addr) (L : List Stp) (cap : Nat) (w : World) (hlen : L.length ≤ maxLen) (hs : StepsAt w A L) (hb : ∀ x ∈ L, x.b.size ≤ maxLen) :
    Calls Try.prog 6 #[.slice A L.length cap] w (SomeB w) := by
  unfold maxLen at hlen hb
  have HS := Lib.hid hs
  have HB := Lib.hid hb
  clear hs hb
  go_enter Try.func6, Try.ntmps6
  go_wp2
  go_loop [3] (fun i => ∃ k : Nat, k ≤ L.length ∧ i = .int .i64 k) (fun i => L.length - (intOf i).toNat)
  case atStart => exact ⟨0, by omega, rfl⟩
  case round =>
    obtain ⟨k, hk, rfl⟩ := hrel
    by_cases hlt : k < L.length
    · by_cases h60 : k < 60
      · obtain ⟨b, off, rfl, _, c0, c1, c2⟩ := HS.out.at_ hlt
        have hsz := HB.out L[k] (by simp)
        generalize L[k] = x at *
        go_wp2
        · go_ret
          exact ⟨_, rfl, rfl⟩
        · go_round
          case rel => exact ⟨k + 1, by omega, by go_num⟩
          case measure => simp [intOf]; omega
      · go_wp2
        go_ret
        exact ⟨_, rfl, rfl⟩
    · go_wp2
      go_ret
      exact ⟨_, rfl, rfl⟩
end Go.Proofs.Ytigdpmbhflojcaa
