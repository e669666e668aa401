/- posthouseref25.Net.Do: Drop, and what is not there. -/
import Derived.Test.YtdffghaledkfeaaRefDo1
namespace Go.Proofs.Ytdffghaledkfeaa
open Go Go.RowKit
set_option maxRecDepth 100000
section
variable {w : World} {B r : Nat} {wv cv : Value} {x : Rs}

set_option maxHeartbeats 8000000 in
theorem rdo2_no (h : RefAt w B r wv cv x.way x.cl) (s : Stp) (hk : s.k = 2) (hi : ¬ x.there s.i) :
    Calls Try.prog 10 #[.pointer (some ⟨r, 0, none⟩), .agg #[.int .i64 s.k, .int .i64 s.i, .int .i64 s.p.f, .int .i64 s.p.t, .string s.p.d]] w (RDoV B r wv cv x.no w) := by
  obtain ⟨A, cap, rfl, _, _⟩ := h.row.sl.any
  obtain ⟨Ac, capc, rfl, _, _⟩ := h.crow.sl.any
  have hg0 := h.rlt
  have hg1 : ¬ r = w.heap.size := by omega
  have hfew := h.few
  have hcfew := h.cfew
  have c0' := (h.below (ins w s).bl).cc0
  have HH := Lib.hid h
  unfold stpObj zObj at c0'
  rw [hk] at c0' ⊢
  have h3 := three_dec s.i x.way.length
  rcases h3 with ⟨i0, i1⟩ | i0 | ⟨i0, i1⟩
  · exact absurd ⟨of_decide_eq_true i0, of_decide_eq_true i1⟩ hi
  all_goals
    clear h hi
    go_enter Try.func10, Try.ntmps10
    go_wp2_with fail
    go_region
    go_wp2_with fail
    try (go_region; go_wp2_with fail)
    go_returns
    exact ⟨rfl, RGot.self HH.out (by go_grown)⟩

set_option maxHeartbeats 8000000 in
theorem rdo3_no (h : RefAt w B r wv cv x.way x.cl) (s : Stp) (hk : s.k = 3) (hi : ¬ x.there s.i) :
    Calls Try.prog 10 #[.pointer (some ⟨r, 0, none⟩), .agg #[.int .i64 s.k, .int .i64 s.i, .int .i64 s.p.f, .int .i64 s.p.t, .string s.p.d]] w (RDoV B r wv cv x.no w) := by
  obtain ⟨A, cap, rfl, _, _⟩ := h.row.sl.any
  obtain ⟨Ac, capc, rfl, _, _⟩ := h.crow.sl.any
  have hg0 := h.rlt
  have hg1 : ¬ r = w.heap.size := by omega
  have hfew := h.few
  have hcfew := h.cfew
  have c0' := (h.below (ins w s).bl).cc0
  have HH := Lib.hid h
  unfold stpObj zObj at c0'
  rw [hk] at c0' ⊢
  have h3 := three_dec s.i x.way.length
  rcases h3 with ⟨i0, i1⟩ | i0 | ⟨i0, i1⟩
  · exact absurd ⟨of_decide_eq_true i0, of_decide_eq_true i1⟩ hi
  all_goals
    clear h hi
    go_enter Try.func10, Try.ntmps10
    go_wp2_with fail
    go_region
    go_wp2_with fail
    try (go_region; go_wp2_with fail)
    go_returns
    exact ⟨rfl, RGot.self HH.out (by go_grown)⟩

theorem grownBy_refl (w : World) (q : Option Nat) : w.grownBy w q := ⟨rfl, rfl, rfl, Nat.le_refl _, fun _ _ _ => rfl⟩
/-- what without made is stored as what is under way -/
theorem RefAt.wayOut {way cl : List Pk} (h : RefAt w B r wv cv way cl) (hB : B ≤ w.heap.size) {w2 : World} (hb : Below w.heap.size w w2) {L : List Pk} {v' : Value} (hr : Rw w2 w.heap.size v' L) (hl : L.length ≤ 512) :
    w2.cell? ⟨r, 0, none⟩ = some wv ∧ w2.frozen? ⟨r, 0, none⟩ = false ∧ RGot B r wv cv ⟨L, cl⟩ w (w2.setCell ⟨r, 0, none⟩ v') := by
  obtain ⟨q0, qf, hR, hT⟩ := h.putWay hb (hr.sl.mono hB) (w0 := w2) (grownBy_refl _ _) (fun q hq => .inr (.inr (hr.sl.ge q hq))) hl
  exact ⟨q0, qf, _, _, hT, hR⟩
set_option maxHeartbeats 8000000 in
theorem rdo3_yes (h : RefAt w B r wv cv x.way x.cl) (hB : B ≤ w.heap.size) (k : Nat) (hk : k < x.way.length) (p : Pk) :
    Calls Try.prog 10 #[.pointer (some ⟨r, 0, none⟩), .agg #[.int .i64 3, .int .i64 (k : Int), .int .i64 p.f, .int .i64 p.t, .string p.d]] w (RDoV B r wv cv ⟨⟨out x.way k, x.cl⟩, zpk, 0, true⟩ w) := by
  obtain ⟨b, off, cap, rfl, _, _⟩ := h.row.sl.shape (by omega)
  obtain ⟨Ac, capc, rfl, _, _⟩ := h.crow.sl.any
  have hg0 := h.rlt
  have hg1 : ¬ r = w.heap.size := by omega
  have hfew := h.few
  have hcfew := h.cfew
  have i0 : decide ((0 : Int) ≤ (k : Int)) = true := decide_eq_true (by omega)
  have i1 : decide ((k : Int) < (x.way.length : Int)) = true := decide_eq_true (by omega)
  have hbl1 := (ins w ⟨3, k, p⟩).bl
  have c0' := (h.below hbl1).cc0
  have c1' := (h.below hbl1).cc1
  obtain ⟨d0', d1', d2'⟩ := (h.below hbl1).row.pk hk
  have hin := ins_drew (ins_drew (ins w ⟨3, k, p⟩))
  have HC := Lib.hid (without_any (some ⟨b, off, none⟩) cap k x.way _ (h.below hin.bl).row hk (by omega))
  have HP := Lib.hid (fun w2 hb v' hr => (h.below hin.bl).wayOut (Nat.le_trans hB hin.bl.size) (w2 := w2) hb (L := out x.way k) (v' := v') hr (by rw [out_len hk]; omega))
  have HA := Lib.hid (fun w2 hh => raft (w2 := w2) (x' := ⟨out x.way k, x.cl⟩) h hin hh)
  clear h hin hbl1
  unfold stpObj zObj at HC HA HP c0' c1' d0' d1' d2'
  go_enter Try.func10, Try.ntmps10
  go_wp2_with fail
  go_region
  go_wp2_with fail
  go_region_with ((go_at_call 22; refine HC.out.mono ?_; rintro e w2 ⟨A3, cap3, rfl, hrow, hb⟩; obtain ⟨q0, qf, hgot⟩ := HP.out w2 hb _ hrow; have hf := HA.out _ hgot; clear hgot hrow hb))
  all_goals
    generalize hw4 : w2.setCell ⟨r, 0, none⟩ (.slice A3 (out x.way k).length cap3) = w4 at *
    have z := cell_z hf.h2
    have z1 := cell_z hf.h1
    have ff : ∀ o, w4.frozen? ⟨w.heap.size + 1, o, none⟩ = false := row_froz hf.h1
    have HF := Lib.hid hf
    clear hf
    (first
      | (have t3 := three_of HF.out.h1 rfl (.int .i64 0) (.int .i64 0) (.string ⟨#[]⟩)
         obtain ⟨s0, s1, s2⟩ := t3
         go_wp2_with fail
         (try simp only [Exit.inBlock, Exit.then])
         refine bodyPost_ret (by simp [results, Try.results10, go_sem, s0, s1, s2]; try rfl) rfl ?_
         exact ⟨rfl, HF.out.fin _ _ _⟩))
end
end Go.Proofs.Ytdffghaledkfeaa
