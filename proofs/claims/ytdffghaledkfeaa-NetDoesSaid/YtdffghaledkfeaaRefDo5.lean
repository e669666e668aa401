/- posthouseref25.Net.Do: Next, and nothing. -/
import Derived.Test.YtdffghaledkfeaaRefDo1
namespace Go.Proofs.Ytdffghaledkfeaa
open Go Go.RowKit
set_option maxRecDepth 100000
section
variable {w : World} {B r : Nat} {wv cv : Value} {x : Rs}

theorem rnext_got {x : Rs} (h : RefAt w B r wv cv x.way x.cl) (hB : B ≤ w.heap.size) (i : Int) :
    Calls Try.prog 23 #[.pointer (some ⟨r, 0, none⟩), .int .i64 i] w fun e w' => e = .returned (.tuple #[.agg #[.int .i64 (x.next i).p.f, .int .i64 (x.next i).p.t, .string (x.next i).p.d], .bool (x.next i).b]) ∧ RGot B r wv cv (x.next i).x w w' := by
  refine (rnext_any h hB i).mono ?_
  intro e w' he
  unfold RNextV at he
  unfold Rs.next
  split at he
  · rename_i hn
    rw [hn]
    exact ⟨he.1, RGot.self h he.2⟩
  · rename_i p l hn
    rw [hn]
    obtain ⟨he, cv', hT, hR⟩ := he
    exact ⟨he, _, _, hT, hR⟩
set_option maxHeartbeats 8000000 in
theorem rdo0 (h : RefAt w B r wv cv x.way x.cl) (s : Stp) (h1 : s.k ≠ 1) (h2 : s.k ≠ 2) (h3 : s.k ≠ 3) (h4 : s.k ≠ 4) (h5 : s.k ≠ 5) (h6 : s.k ≠ 6) :
    Calls Try.prog 10 #[.pointer (some ⟨r, 0, none⟩), .agg #[.int .i64 s.k, .int .i64 s.i, .int .i64 s.p.f, .int .i64 s.p.t, .string s.p.d]] w (RDoV B r wv cv x.no w) := by
  obtain ⟨A, cap, rfl, _, _⟩ := h.row.sl.any
  obtain ⟨Ac, capc, rfl, _, _⟩ := h.crow.sl.any
  have hg0 := h.rlt
  have hg1 : ¬ r = w.heap.size := by omega
  have hfew := h.few
  have hcfew := h.cfew
  have c0' := (h.below (ins w s).bl).cc0
  have HH := Lib.hid h
  unfold stpObj zObj at c0'
  have h3 := three_dec s.i x.way.length
  rcases h3 with ⟨i0, i1⟩ | i0 | ⟨i0, i1⟩
  all_goals
    clear h
    go_enter Try.func10, Try.ntmps10
    go_wp2_with fail
    go_region
    go_wp2_with fail
    go_returns
    exact ⟨rfl, RGot.self HH.out (by go_grown)⟩
set_option maxHeartbeats 8000000 in
theorem rdo5 (h : RefAt w B r wv cv x.way x.cl) (hB : B ≤ w.heap.size) (s : Stp) (hk : s.k = 5) :
    Calls Try.prog 10 #[.pointer (some ⟨r, 0, none⟩), .agg #[.int .i64 s.k, .int .i64 s.i, .int .i64 s.p.f, .int .i64 s.p.t, .string s.p.d]] w (RDoV B r wv cv (x.next s.i) w) := by
  obtain ⟨A, cap, rfl, _, _⟩ := h.row.sl.any
  obtain ⟨Ac, capc, rfl, _, _⟩ := h.crow.sl.any
  have hg0 := h.rlt
  have hg1 : ¬ r = w.heap.size := by omega
  have hfew := h.few
  have hcfew := h.cfew
  have c0' := (h.below (ins w s).bl).cc0
  have hin := ins_drew (ins w s)
  have HC := Lib.hid (rnext_got (h.below hin.bl) (Nat.le_trans hB hin.bl.size) s.i)
  obtain ⟨d, hd⟩ : ∃ d, d = x.next s.i := ⟨_, rfl⟩
  have hn0 : d.n = 0 := by
    rw [hd]; unfold Rs.next; split <;> rfl
  have HA := Lib.hid (fun w2 hh => raft (w2 := w2) (x' := d.x) h hin hh)
  rw [← hd] at HC ⊢
  have HD := Lib.hid hn0
  have h3 := three_dec s.i x.way.length
  clear h hin hd hn0
  unfold stpObj zObj at HC HA c0'
  rw [hk] at HC HA c0' ⊢
  rcases h3 with ⟨i0, i1⟩ | i0 | ⟨i0, i1⟩
  all_goals
    go_enter Try.func10, Try.ntmps10
    go_wp2_with fail
    go_region
    go_wp2_with fail
    refine HC.out.mono ?_
    rintro e w2 ⟨rfl, hgot⟩
    have h02 := HA.out w2 hgot
    obtain ⟨x0, x1, x2⟩ := cell_z h02.h1
    have ff : ∀ o, w2.frozen? ⟨w.heap.size + 1, o, none⟩ = false := row_froz h02.h1
    have hl : w.heap.size + 1 < w2.heap.size := heap_lt h02.h1
    have hl2 : ¬ w.heap.size + 1 = w2.heap.size := by omega
    have h3 := put3 h02.h1 (.int .i64 d.p.f) (.int .i64 d.p.t) (.string d.p.d)
    have h9 := h02.fin (.int .i64 d.p.f) (.int .i64 d.p.t) (.string d.p.d)
    generalize hX : (((w2.setCell ⟨w.heap.size + 1, 0, none⟩ (.int .i64 d.p.f)).setCell ⟨w.heap.size + 1, 1, none⟩ (.int .i64 d.p.t)).setCell ⟨w.heap.size + 1, 2, none⟩ (.string d.p.d)) = X at *
    have h4 := (alloc_old X (.cells #[.int .i64 d.p.f, .int .i64 d.p.t, .string d.p.d] 23) _ (heap_lt h3)).trans h3
    have u0 : (X.alloc (.cells #[.int .i64 d.p.f, .int .i64 d.p.t, .string d.p.d] 23)).cell? ⟨w.heap.size + 1, 0, none⟩ = some (.int .i64 d.p.f) := by rw [row_cell h4]; rfl
    have u1 : (X.alloc (.cells #[.int .i64 d.p.f, .int .i64 d.p.t, .string d.p.d] 23)).cell? ⟨w.heap.size + 1, 1, none⟩ = some (.int .i64 d.p.t) := by rw [row_cell h4]; rfl
    have u2 : (X.alloc (.cells #[.int .i64 d.p.f, .int .i64 d.p.t, .string d.p.d] 23)).cell? ⟨w.heap.size + 1, 2, none⟩ = some (.string d.p.d) := by rw [row_cell h4]; rfl
    have HF := Lib.hid (h9.below (show Below X.heap.size X (X.alloc (.cells #[.int .i64 d.p.f, .int .i64 d.p.t, .string d.p.d] 23)) by go_grown))
    have HXX := Lib.hid hX
    clear h02 hgot h3 h4 h9 hX
    go_wp2_with fail
    (try simp only [Exit.inBlock, Exit.then])
    rw [HXX.out]
    refine bodyPost_ret (by simp [results, Try.results10, go_sem, u0, u1, u2]; try rfl) rfl ?_
    exact ⟨by rw [HD.out], HF.out⟩
end
end Go.Proofs.Ytdffghaledkfeaa
