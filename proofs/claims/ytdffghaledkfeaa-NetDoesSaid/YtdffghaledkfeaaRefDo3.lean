/- posthouseref25.Net.Do: Twice. -/
import Derived.Test.YtdffghaledkfeaaRefDo1
namespace Go.Proofs.Ytdffghaledkfeaa
open Go Go.RowKit
set_option maxRecDepth 100000
section
variable {w : World} {B r : Nat} {wv cv : Value} {x : Rs}

set_option maxHeartbeats 8000000 in
theorem rdo4_no (h : RefAt w B r wv cv x.way x.cl) (s : Stp) (hk : s.k = 4) (hi : ¬ x.there s.i) :
    Calls Try.prog 10 #[.pointer (some ⟨r, 0, none⟩), .agg #[.int .i64 s.k, .int .i64 s.i, .int .i64 s.p.f, .int .i64 s.p.t, .string s.p.d]] w (RDoV B r wv cv x.no w) := by
  obtain ⟨A, cap, rfl, _, _⟩ := h.row.sl.any
  obtain ⟨Ac, capc, rfl, _, _⟩ := h.crow.sl.any
  have hg0 := h.rlt
  have hg1 : ¬ r = w.heap.size := by omega
  have hfew := h.few
  have hcfew := h.cfew
  have c0' := (h.below (ins w s).bl).cc0
  have HH := Lib.hid h
  unfold stpObj zObj at c0'
  rw [hk] at c0' ⊢
  have h3 := three_dec s.i x.way.length
  rcases h3 with ⟨i0, i1⟩ | i0 | ⟨i0, i1⟩
  · exact absurd ⟨of_decide_eq_true i0, of_decide_eq_true i1⟩ hi
  all_goals
    clear h hi
    go_enter Try.func10, Try.ntmps10
    go_wp2_with fail
    go_region
    go_wp2_with fail
    try (go_region; go_wp2_with fail)
    go_returns
    exact ⟨rfl, RGot.self HH.out (by go_grown)⟩

set_option maxHeartbeats 8000000 in
theorem rdo4_yes (h : RefAt w B r wv cv x.way x.cl) (hB : B ≤ w.heap.size) (k : Nat) (hk : k < x.way.length) (p : Pk) :
    Calls Try.prog 10 #[.pointer (some ⟨r, 0, none⟩), .agg #[.int .i64 4, .int .i64 (k : Int), .int .i64 p.f, .int .i64 p.t, .string p.d]] w (RDoV B r wv cv (x.send x.way[k]) w) := by
  obtain ⟨b, off, cap, rfl, _, _⟩ := h.row.sl.shape (by omega)
  obtain ⟨Ac, capc, rfl, _, _⟩ := h.crow.sl.any
  have hg0 := h.rlt
  have hg1 : ¬ r = w.heap.size := by omega
  have hfew := h.few
  have hcfew := h.cfew
  have i0 : decide ((0 : Int) ≤ (k : Int)) = true := decide_eq_true (by omega)
  have i1 : decide ((k : Int) < (x.way.length : Int)) = true := decide_eq_true (by omega)
  have hbl1 := (ins w ⟨4, k, p⟩).bl
  have c0' := (h.below hbl1).cc0
  have c1' := (h.below hbl1).cc1
  obtain ⟨d0', d1', d2'⟩ := (h.below hbl1).row.pk hk
  have hin := ins_drew (ins_drew (ins w ⟨4, k, p⟩))
  have HC := Lib.hid (rsend_got (h.below hin.bl) (Nat.le_trans hB hin.bl.size) x.way[k])
  have HI := Lib.hid hin
  obtain ⟨d, hd⟩ : ∃ d, d = x.send x.way[k] := ⟨_, rfl⟩
  have hz : d.p = zpk ∧ d.n = 0 := by rw [hd]; exact ⟨rfl, rfl⟩
  have HA := Lib.hid (fun w2 hh => raft (w2 := w2) (x' := d.x) h hin hh)
  rw [← hd] at HC ⊢
  have HZ := Lib.hid hz
  clear h hin hbl1 hd hz
  generalize x.way[k] = u at *
  unfold stpObj zObj at HC HA HI c0' c1' d0' d1' d2'
  go_enter Try.func10, Try.ntmps10
  go_wp2_with fail
  go_region
  go_wp2_with fail
  go_region_with ((go_at_call 21; refine HC.out.mono ?_; rintro e w2 ⟨rfl, hgot⟩; have hf := HA.out w2 hgot; obtain ⟨z0, z1, z2⟩ := cell_z (show w2.heap[w.heap.size + 1 + 1]? = _ from hf.h2); obtain ⟨x0, x1, x2⟩ := cell_z hf.h1; have y := cell_s hf.h0; have ff : ∀ o, w2.frozen? ⟨w.heap.size + 1, o, none⟩ = false := row_froz hf.h1; have HF := Lib.hid hf; clear hf))
  all_goals
    have t3 := three_of HF.out.h1 rfl (.int .i64 0) (.int .i64 0) (.string ⟨#[]⟩)
    obtain ⟨s0, s1, s2⟩ := t3
    clear hgot
    go_wp2_with fail
    (try simp only [Exit.inBlock, Exit.then])
    refine bodyPost_ret (by simp [results, Try.results10, go_sem, s0, s1, s2]; try rfl) rfl ?_
    exact ⟨by rw [HZ.out.1, HZ.out.2]; rfl, HF.out.fin _ _ _⟩
end
end Go.Proofs.Ytdffghaledkfeaa
