/- index: changes that came in. -/
import Derived.Test.YtokhnbdhcehonaaGreatRo
import Derived.Test.YtokhnbdhcehonaaGreatOpen
set_option linter.unusedSimpArgs false
set_option linter.unusedVariables false
namespace Go.Proofs.YtokhnbdhcehonaaGreat
open Go Go.RowKit Row
set_option maxRecDepth 100000
def ks18 : List Nat := [2, 2, 2, 1, 1, 1, 2, 2, 2, 2, 2, 2, 2, 2, 2, 2, 2, 2]
theorem j2 {v : Value} (h : leafOk 2 v) : ∃ n, v = .int .i64 n ∧ (Lit.int .i64 n).wf = true := by
  cases v <;> simp [leafOk] at h
  obtain ⟨rfl, h⟩ := h
  exact ⟨_, rfl, by simpa using h⟩
theorem j1 {v : Value} (h : leafOk 1 v) : ∃ n, v = .string n := by
  cases v <;> simp [leafOk] at h
  exact ⟨_, rfl⟩
/-- what Go's int may be -/
def i64 (n : Int) : Prop := (Lit.int .i64 n).wf = true
structure Ch.ok (x : Ch) : Prop where
  s : i64 x.s
  z : i64 x.a.z
  e : i64 x.a.e
  c : i64 x.a.c
  i : i64 x.a.i
theorem ch_of_typed : ∀ {vs : List Value}, Typed ks18 vs → ∃ x : Ch, vs = cells x ∧ x.ok
  | [v0, v1, v2, v3, v4, v5, v6, v7, v8, v9, v10, v11, v12, v13, v14, v15, v16, v17], ⟨h0, h1, h2, h3, h4, h5, h6, h7, h8, h9, h10, h11, h12, h13, h14, h15, h16, h17, _⟩ => by
    obtain ⟨k, rfl, _⟩ := j2 h0
    obtain ⟨e, rfl, _⟩ := j2 h1
    obtain ⟨s, rfl, hs⟩ := j2 h2
    obtain ⟨u, rfl⟩ := j1 h3
    obtain ⟨n, rfl⟩ := j1 h4
    obtain ⟨c, rfl⟩ := j1 h5
    obtain ⟨a0, rfl, _⟩ := j2 h6
    obtain ⟨a1, rfl, _⟩ := j2 h7
    obtain ⟨a2, rfl, _⟩ := j2 h8
    obtain ⟨a3, rfl, _⟩ := j2 h9
    obtain ⟨a4, rfl, _⟩ := j2 h10
    obtain ⟨a5, rfl, w5⟩ := j2 h11
    obtain ⟨a6, rfl, _⟩ := j2 h12
    obtain ⟨a7, rfl, w7⟩ := j2 h13
    obtain ⟨a8, rfl, w8⟩ := j2 h14
    obtain ⟨a9, rfl, w9⟩ := j2 h15
    obtain ⟨m, rfl, _⟩ := j2 h16
    obtain ⟨t, rfl, _⟩ := j2 h17
    exact ⟨⟨k, e, s, u, n, c, ⟨a0, a1, a2, a3, a4, a5, a6, a7, a8, a9⟩, m, t⟩, rfl, ⟨hs, w5, w7, w8, w9⟩⟩
theorem chs_of_rows (R : List (List Value)) (h : ∀ (i : Nat) (hi : i < R.length), Typed ks18 R[i]) : ∃ L : List Ch, R = L.map cells ∧ ∀ x ∈ L, x.ok := by
  induction R with
  | nil => exact ⟨[], rfl, by simp⟩
  | cons r R ih =>
    obtain ⟨L, rfl, hL⟩ := ih fun i hi => h (i + 1) (by simpa using hi)
    obtain ⟨x, hx, hb⟩ := ch_of_typed (h 0 (by simp))
    exact ⟨x :: L, by simp [← hx], by simpa using ⟨hb, hL⟩⟩
theorem ro_of {w : World} {A : Option Addr} {L : List Ch} {cap : Nat} (hc : L.length ≤ cap) (hm : cap ≤ maxLen) (h : RowsAt w A 18 (L.map cells)) : Ro w (.slice A L.length cap) L :=
  ⟨⟨A, cap, rfl, hc, hm⟩, fun hp => by
    obtain ⟨b, off, rfl, hlt, hr⟩ := h (by simpa using hp)
    refine ⟨b, off, cap, rfl, hlt, fun k hk j v hj => ?_⟩
    have := hr k (by simpa using hk) j v (by simpa using hj)
    exact this⟩
end Go.Proofs.YtokhnbdhcehonaaGreat
