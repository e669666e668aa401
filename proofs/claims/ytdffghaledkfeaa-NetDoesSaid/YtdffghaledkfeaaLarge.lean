/- Steps that came in; the law's guard; Same. -/
import Derived.Test.YtdffghaledkfeaaDo
import Derived.Test.YtdffghaledkfeaaOpen
namespace Go.Proofs.Ytdffghaledkfeaa
open Go Go.RowKit
set_option maxRecDepth 100000
def Stp.row (x : Stp) : List Value := [.int .i64 x.k, .int .i64 x.i, .int .i64 x.p.f, .int .i64 x.p.t, .string x.p.d]
def Stp.ok (x : Stp) : Prop := kok x.i ∧ x.p.d.size ≤ maxLen
theorem stp_of_typed {vs : List Value} (h : Typed [2, 2, 2, 2, 1] vs) : ∃ x : Stp, vs = x.row ∧ x.ok := by
  match vs, h with
  | [v0, v1, v2, v3, v4], ⟨h0, h1, h2, h3, h4, _⟩ =>
    cases v0 <;> simp [leafOk] at h0
    cases v1 <;> simp [leafOk] at h1
    cases v2 <;> simp [leafOk] at h2
    cases v3 <;> simp [leafOk] at h3
    cases v4 <;> simp [leafOk] at h4
    obtain ⟨rfl, _⟩ := h0
    obtain ⟨rfl, w1⟩ := h1
    obtain ⟨rfl, _⟩ := h2
    obtain ⟨rfl, _⟩ := h3
    refine ⟨⟨_, _, ⟨_, _, _⟩⟩, rfl, ?_, h4⟩
    first | exact w1 | (unfold kok; simpa [Lit.wf] using w1)
theorem steps_of_rows (R : List (List Value)) (h : ∀ (i : Nat) (hi : i < R.length), Typed [2, 2, 2, 2, 1] R[i]) : ∃ L : List Stp, R = L.map Stp.row ∧ ∀ x ∈ L, x.ok := by
  induction R with
  | nil => exact ⟨[], rfl, by simp⟩
  | cons r R ih =>
    obtain ⟨L, rfl, hL⟩ := ih fun i hi => h (i + 1) (by simpa using hi)
    obtain ⟨x, hx, hb⟩ := stp_of_typed (h 0 (by simp))
    exact ⟨x :: L, by simp [← hx], by simpa using ⟨hb, hL⟩⟩
def StepsAt (w : World) (A : Option Addr) (L : List Stp) : Prop := RowsAt w A 5 (L.map Stp.row)
def StpAt (w : World) (b o : Nat) (x : Stp) : Prop := w.cell? ⟨b, o, none⟩ = some (.int .i64 x.k) ∧ w.cell? ⟨b, o + 1, none⟩ = some (.int .i64 x.i) ∧ w.cell? ⟨b, o + 2, none⟩ = some (.int .i64 x.p.f) ∧ w.cell? ⟨b, o + 3, none⟩ = some (.int .i64 x.p.t) ∧ w.cell? ⟨b, o + 4, none⟩ = some (.string x.p.d)
theorem StepsAt.at_ {w : World} {A : Option Addr} {L : List Stp} (h : StepsAt w A L) {k : Nat} (hk : k < L.length) :
    ∃ b off, A = some ⟨b, off, none⟩ ∧ b < w.heap.size ∧ StpAt w b (off + k * 5) L[k] := by
  obtain ⟨b, off, rfl, hlt, hc⟩ := h (by simpa using by omega)
  have hc := hc k (by simpa using hk)
  simp only [List.getElem_map] at hc
  exact ⟨b, off, rfl, hlt, hc 0 _ rfl, hc 1 _ rfl, hc 2 _ rfl, hc 3 _ rfl, hc 4 _ rfl⟩
theorem StpAt.below {w w' : World} {b o B : Nat} {x : Stp} (h : StpAt w b o x) (hb : Below B w w') (hl : b < B) : StpAt w' b o x :=
  ⟨(hb.cell (p := ⟨b, o, none⟩) hl).trans h.1, (hb.cell (p := ⟨b, o + 1, none⟩) hl).trans h.2.1, (hb.cell (p := ⟨b, o + 2, none⟩) hl).trans h.2.2.1, (hb.cell (p := ⟨b, o + 3, none⟩) hl).trans h.2.2.2.1, (hb.cell (p := ⟨b, o + 4, none⟩) hl).trans h.2.2.2.2⟩

def LargeV (L : List Stp) (w : World) (e : Ending) (w' : World) : Prop := ∃ b : Bool, e = .returned (.bool b) ∧ w = w' ∧ (b = false → L.length ≤ 80)
set_option maxHeartbeats 1000000 in
theorem large_any (A : Option Addr) (L : List Stp) (cap : Nat) (w : World) (hlen : L.length ≤ maxLen) (hs : StepsAt w A L) (hb : ∀ x ∈ L, x.ok) :
    Calls Try.prog 14 #[.slice A L.length cap] w (LargeV L w) := by
  unfold maxLen at hlen
  have HS := Lib.hid hs
  have HB := Lib.hid hb
  clear hs hb
  go_enter Try.func14, Try.ntmps14
  go_wp2
  go_loop [3] (fun i => ∃ k : Nat, k ≤ L.length ∧ i = .int .i64 k) (fun i => L.length - (intOf i).toNat)
  case atStart => exact ⟨0, by omega, rfl⟩
  case round =>
    obtain ⟨k, hk, rfl⟩ := hrel
    by_cases hlt : k < L.length
    · by_cases h60 : k < 80
      · obtain ⟨b, off, rfl, _, c0, c1, c2, c3, c4⟩ := HS.out.at_ hlt
        have hsz : L[k].p.d.size ≤ 9223372036854775807 := (HB.out L[k] (by simp)).2
        generalize L[k] = x at *
        by_cases hbig : (2100 : Int) < (x.p.d.size : Int)
        · go_wp2
          go_ret
          exact ⟨true, rfl, rfl, by simp⟩
        · go_wp2
          go_round
          case rel => exact ⟨k + 1, by omega, by go_num⟩
          case measure => simp [intOf]; omega
      · go_wp2
        go_ret
        refine ⟨decide (80 < L.length), ?_, rfl, ?_⟩
        · simp only [gt_iff_lt]; congr 2; simp; try omega
        · intro h; have := of_decide_eq_false h; omega
    · go_wp2
      go_ret
      refine ⟨decide (80 < L.length), ?_, rfl, ?_⟩
      · simp only [gt_iff_lt]; congr 2; simp; try omega
      · intro h; have := of_decide_eq_false h; omega

/-! ### Same -/
set_option maxHeartbeats 1000000 in
theorem same_any {B : Nat} (A A' : Option Addr) (cap cap' : Nat) (L : List Pk) (w : World) (h : Rw w B (.slice A L.length cap) L) (h' : Rw w B (.slice A' L.length cap') L) (hl : L.length ≤ 1000000) :
    Calls Try.prog 17 #[.slice A L.length cap, .slice A' L.length cap'] w fun e w' => e = .returned (.bool true) ∧ Below w.heap.size w w' := by
  have H1 := Lib.hid h
  have H2 := Lib.hid h'
  clear h h'
  go_enter Try.func17, Try.ntmps17
  go_wp2
  go_loopw [5] (fun i wr => ∃ k : Nat, k ≤ L.length ∧ i = .int .i64 k ∧ Below w.heap.size w wr) (fun i _ => L.length - (intOf i).toNat)
  case atStart => exact ⟨0, by omega, rfl, Below.refl _ _⟩
  case round =>
    obtain ⟨k, hk, rfl, hb⟩ := hrel
    by_cases hlt : k < L.length
    · obtain ⟨b, off, cp, he, _, _⟩ := H1.out.sl.shape (by omega)
      cases he
      obtain ⟨b', off', cp', he, _, _⟩ := H2.out.sl.shape (by omega)
      cases he
      obtain ⟨c0, c1, c2⟩ := (show Rw wr B _ L from H1.out.sl.below hb).pk hlt
      obtain ⟨d0, d1, d2⟩ := (show Rw wr B _ L from H2.out.sl.below hb).pk hlt
      have HB := Lib.hid hb
      clear hb
      generalize L[k] = p at *
      go_wp2_with fail
      go_region
      go_wp2_with fail
      go_roundw
      case rel => exact ⟨k + 1, by omega, by go_num, HB.out.drew⟩
      case measure => simp [intOf]; omega
    · have HB := Lib.hid hb
      clear hb
      go_wp2_with fail
      go_returns
      exact ⟨rfl, HB.out⟩
end Go.Proofs.Ytdffghaledkfeaa
