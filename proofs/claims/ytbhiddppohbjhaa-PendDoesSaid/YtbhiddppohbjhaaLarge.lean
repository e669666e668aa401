/- Steps that came in; the law's guard. -/
import Derived.Test.YtbhiddppohbjhaaDo
namespace Go.Proofs.Ytbhiddppohbjhaa
open Go Go.RowKit
set_option maxRecDepth 100000
def ks34 : List Nat := [2, 2, 2, 2, 2, 2, 0, 2, 2, 2] ++ ks24
def ks38 : List Nat := [2, 2, 2, 2] ++ ks34
theorem i2 {v : Value} (h : leafOk 2 v) : ∃ n, v = .int .i64 n ∧ (Lit.int .i64 n).wf = true := by
  cases v <;> simp [leafOk] at h
  obtain ⟨rfl, h⟩ := h
  exact ⟨_, rfl, by simpa using h⟩
theorem i0 {v : Value} (h : leafOk 0 v) : ∃ b, v = .bool b := by
  cases v <;> simp [leafOk] at h
  exact ⟨_, rfl⟩
theorem pd_of_typed : ∀ {vs : List Value}, Typed ks34 vs → ∃ p : Pd, vs = p.cells ∧ p.ok
  | v0 :: v1 :: v2 :: v3 :: v4 :: v5 :: v6 :: v7 :: v8 :: v9 :: re, ⟨h0, h1, h2, h3, h4, h5, h6, h7, h8, h9, hr⟩ => by
    obtain ⟨cl, rfl, hc⟩ := i2 h0
    obtain ⟨sq, rfl, _⟩ := i2 h1
    obtain ⟨ui, rfl, _⟩ := i2 h2
    obtain ⟨gi, rfl, _⟩ := i2 h3
    obtain ⟨fr, rfl, _⟩ := i2 h4
    obtain ⟨xi, rfl, _⟩ := i2 h5
    obtain ⟨ag, rfl⟩ := i0 h6
    obtain ⟨up, rfl, _⟩ := i2 h7
    obtain ⟨sn, rfl, _⟩ := i2 h8
    obtain ⟨du, rfl, hdu⟩ := i2 h9
    exact ⟨⟨cl, sq, ui, gi, fr, xi, ag, up, sn, du, re⟩, rfl, ⟨hr, hc, hdu⟩⟩
theorem st_of_typed : ∀ {vs : List Value}, Typed ks38 vs → ∃ s : St, vs = s.cells ∧ s.ok
  | v0 :: v1 :: v2 :: v3 :: ps, ⟨h0, h1, h2, h3, hp⟩ => by
    obtain ⟨k, rfl, _⟩ := i2 h0
    obtain ⟨c, rfl, hc⟩ := i2 h1
    obtain ⟨n, rfl, hn⟩ := i2 h2
    obtain ⟨m, rfl, _⟩ := i2 h3
    obtain ⟨p, rfl, hpo⟩ := pd_of_typed hp
    exact ⟨⟨k, c, n, m, p⟩, rfl, ⟨hpo, hc, hn⟩⟩
theorem sts_of_rows (R : List (List Value)) (h : ∀ (i : Nat) (hi : i < R.length), Typed ks38 R[i]) : ∃ L : List St, R = L.map St.cells ∧ ∀ x ∈ L, x.ok := by
  induction R with
  | nil => exact ⟨[], rfl, by simp⟩
  | cons r R ih =>
    obtain ⟨L, rfl, hL⟩ := ih fun i hi => h (i + 1) (by simpa using hi)
    obtain ⟨x, hx, hb⟩ := st_of_typed (h 0 (by simp))
    exact ⟨x :: L, by simp [← hx], by simpa using ⟨hb, hL⟩⟩
def StsAt (w : World) (A : Option Addr) (L : List St) : Prop := RowsAt w A 38 (L.map St.cells)
theorem StsAt.at_ {w : World} {A : Option Addr} {L : List St} (h : StsAt w A L) {k : Nat} (hk : k < L.length) :
    ∃ b off, A = some ⟨b, off, none⟩ ∧ b < w.heap.size ∧ w.rangeAt b (off + k * 38) L[k].cells := by
  obtain ⟨b, off, rfl, hlt, hc⟩ := h (by simpa using by omega)
  have hc := hc k (by simpa using hk)
  simp only [List.getElem_map] at hc
  exact ⟨b, off, rfl, hlt, hc⟩
theorem range_below {w w' : World} {b o B : Nat} {cs : List Value} (h : w.rangeAt b o cs) (hb : Below B w w') (hl : b < B) : w'.rangeAt b o cs := fun j v hj => (hb.cell (p := ⟨b, o + j, none⟩) hl).trans (h j v hj)
/-- a call's arguments, 24 cells -/
theorem size35 : (Try.prog.info? 35).map (·.size) = some 24 := by kernel_rfl
def BoolV (w : World) (e : Ending) (w' : World) : Prop := ∃ b : Bool, e = .returned (.bool b) ∧ Below w.heap.size w w'
set_option maxHeartbeats 8000000 in
theorem clarge_any {re : List Value} (h : Typed ks24 re) (w : World) : Calls Try.prog 20 #[.agg re.toArray] w (BoolV w) := by
  obtain ⟨n0, s0, s1, s2, s3, n1, n2, n3, s4, b0, m0, b1, m1, b2, m2, b3, m3, b4, m4, b5, m5, n4, n5, s5, hre⟩ := re_cases h
  subst hre
  clear h
  go_enter Try.func20, Try.ntmps20
  go_wp2_with fail
  all_goals
    go_ret
    exact ⟨_, rfl, by go_grown⟩
def LargeV (L : List St) (w : World) (e : Ending) (w' : World) : Prop := ∃ b : Bool, e = .returned (.bool b) ∧ Below w.heap.size w w' ∧ (b = false → L.length ≤ 60)
theorem pd_range {w : World} {b o : Nat} {s : St} (h : w.rangeAt b o s.cells) : w.rangeAt b (o + 4) s.p.cells := fun j v hj => by
  rw [Nat.add_assoc, Nat.add_comm 4 j]
  exact h (j + 4) v hj
theorem re_range {w : World} {b o : Nat} {s : St} (h : w.rangeAt b o s.cells) : w.rangeAt b (o + 4 + 10) s.p.re := fun j v hj => by
  rw [Nat.add_assoc, Nat.add_assoc, show 4 + (10 + j) = j + 14 by omega]
  exact h (j + 14) v hj
set_option maxHeartbeats 8000000 in
theorem large_any (A : Option Addr) (L : List St) (cap : Nat) (w : World) (hlen : L.length ≤ maxLen) (hs : StsAt w A L) (hb : ∀ x ∈ L, x.ok) :
    Calls Try.prog 6 #[.slice A L.length cap] w (LargeV L w) := by
  unfold maxLen at hlen
  have HS := Lib.hid hs
  have HB := Lib.hid hb
  clear hs hb
  go_enter Try.func6, Try.ntmps6
  go_wp2
  go_loopw [3] (fun i wr => ∃ k : Nat, k ≤ L.length ∧ i = .int .i64 k ∧ Below w.heap.size w wr) (fun i _ => L.length - (intOf i).toNat)
  case atStart => exact ⟨0, by omega, rfl, Below.refl _ _⟩
  case round =>
    obtain ⟨k, hk, rfl, hbl⟩ := hrel
    by_cases hlt : k < L.length
    · by_cases h60 : k < 60
      · obtain ⟨b, off, rfl, hbw, hst⟩ := HS.out.at_ hlt
        have hso := HB.out L[k] (by simp)
        generalize L[k] = s at *
        have hr := re_range (range_below hst hbl hbw)
        have hre := hso.p.re
        have hln : s.p.re.length = 24 := by have := hre.length; simpa [ks24] using this
        have HC := Lib.hid (clarge_any hre wr)
        have HBL := Lib.hid hbl
        have HR := Lib.hid (And.intro hr (And.intro hln hso))
        clear hr hln hbl hso hst hre
        go_wp2_with (first | (refine wpList_load_mid rfl 35 (.tmp 18) rfl b (off + k * 38 + 4 + 10) rfl s.p.re _ HR.out.1 Try.underlying35 rfl (by rw [HR.out.2.1]; exact size35) ?_))
        refine HC.out.mono ?_
        rintro e w2 ⟨c, rfl, hb2⟩
        have HB2 := Lib.hid (HBL.out.trans (hb2.mono HBL.out.size))
        clear hb2
        cases c with
        | true =>
          go_wp2
          go_ret
          exact ⟨true, rfl, HB2.out, by simp⟩
        | false =>
          go_wp2
          go_roundw
          case rel => exact ⟨k + 1, by omega, by go_num, HB2.out⟩
          case measure => simp [intOf]; omega
      · have HBL := Lib.hid hbl
        clear hbl
        go_wp2
        go_ret
        refine ⟨decide (60 < L.length), ?_, HBL.out, ?_⟩
        · simp only [gt_iff_lt]; congr 2; simp; try omega
        · intro h; have := of_decide_eq_false h; omega
    · have HBL := Lib.hid hbl
      clear hbl
      go_wp2
      go_ret
      refine ⟨decide (60 < L.length), ?_, HBL.out, ?_⟩
      · simp only [gt_iff_lt]; congr 2; simp; try omega
      · intro h; have := of_decide_eq_false h; omega
end Go.Proofs.Ytbhiddppohbjhaa
