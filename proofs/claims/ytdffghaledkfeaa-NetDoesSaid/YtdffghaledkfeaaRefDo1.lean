/- posthouseref25.Net.Do: Send. -/
import Derived.Test.YtdffghaledkfeaaRefDo
namespace Go.Proofs.Ytdffghaledkfeaa
open Go Go.RowKit
set_option maxRecDepth 100000
theorem three_dec (i : Int) (n : Nat) : (decide (0 ≤ i) = true ∧ decide (i < (n : Int)) = true) ∨ decide (0 ≤ i) = false ∨ (decide (0 ≤ i) = true ∧ decide (i < (n : Int)) = false) := by
  by_cases h0 : 0 ≤ i
  · by_cases h1 : i < (n : Int)
    · exact .inl ⟨decide_eq_true h0, decide_eq_true h1⟩
    · exact .inr (.inr ⟨decide_eq_true h0, decide_eq_false h1⟩)
  · exact .inr (.inl (decide_eq_false h0))
section
variable {w : World} {B r : Nat} {wv cv : Value} {x : Rs}
set_option maxHeartbeats 8000000 in
theorem rdo1 (h : RefAt w B r wv cv x.way x.cl) (hB : B ≤ w.heap.size) (s : Stp) (hk : s.k = 1) :
    Calls Try.prog 10 #[.pointer (some ⟨r, 0, none⟩), .agg #[.int .i64 s.k, .int .i64 s.i, .int .i64 s.p.f, .int .i64 s.p.t, .string s.p.d]] w (RDoV B r wv cv (x.send s.p) w) := by
  obtain ⟨A, cap, rfl, _, _⟩ := h.row.sl.any
  have c0 := h.cc0
  have hg0 := h.rlt
  have hg1 : ¬ r = w.heap.size := by omega
  have hg2 : ¬ r = w.heap.size + 1 := by omega
  have hg3 : ¬ r = w.heap.size + 1 + 1 := by omega
  have hfew := h.few
  have hin := ins_drew (ins_drew (ins w s))
  have c0' := (h.below (ins w s).bl).cc0
  have HC := Lib.hid (rsend_got (h.below hin.bl) (Nat.le_trans hB hin.bl.size) s.p)
  have HA := Lib.hid (fun w2 hh => raft (w2 := w2) (x' := (x.send s.p).x) h hin hh)
  have HI := Lib.hid hin
  clear h hin
  unfold stpObj zObj at HC HA HI c0'
  rw [hk] at HC ⊢
  rw [hk] at HA
  rw [hk] at HI c0'
  rcases three_dec s.i x.way.length with ⟨i0, i1⟩ | i0 | ⟨i0, i1⟩
  all_goals
    go_enter Try.func10, Try.ntmps10
    go_wp2_with fail
    go_region
    go_wp2_with fail
    go_region_held3 (fun w' => w'.cell? ⟨w.heap.size + 1 + 1, 0, none⟩ = some (.int .i64 0) ∧ w'.cell? ⟨w.heap.size + 1 + 1, 1, none⟩ = some (.int .i64 0) ∧ w'.cell? ⟨w.heap.size + 1 + 1, 2, none⟩ = some (.string ⟨#[]⟩) ∧ w'.cell? ⟨w.heap.size, 2, none⟩ = some (.int .i64 s.p.f) ∧ w'.cell? ⟨w.heap.size, 3, none⟩ = some (.int .i64 s.p.t) ∧ w'.cell? ⟨w.heap.size, 4, none⟩ = some (.string s.p.d)) (first | exact ⟨z.1, z.2.1, z.2.2, y.2.2⟩ | exact ⟨(cell_z HI.out.c2).1, (cell_z HI.out.c2).2.1, (cell_z HI.out.c2).2.2, (cell_s HI.out.c0).2.2⟩ | go_keep)
      ((go_at_call 21; refine HC.out.mono ?_; rintro e w2 ⟨rfl, hgot⟩; have hf := HA.out w2 hgot; have z := cell_z hf.h2; have z1 := cell_z hf.h1; have y := cell_s hf.h0; have ff : ∀ o, w2.frozen? ⟨w.heap.size + 1, o, none⟩ = false := row_froz hf.h1; have HF := Lib.hid hf; clear hf))
    all_goals
      have t3 := three_of HF.out.h1 rfl (.int .i64 0) (.int .i64 0) (.string ⟨#[]⟩)
      obtain ⟨s0, s1, s2⟩ := t3
      clear hgot
      go_wp2_with fail
      (try simp only [Exit.inBlock, Exit.then])
      refine bodyPost_ret (by simp [results, Try.results10, go_sem, s0, s1, s2]; try rfl) rfl ?_
      exact ⟨rfl, HF.out.fin _ _ _⟩
end
end Go.Proofs.Ytdffghaledkfeaa
