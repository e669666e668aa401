/- posthouseref25.Net.Do: Deliver, where there is no room. -/
import Derived.Test.YtdffghaledkfeaaRefDo1
namespace Go.Proofs.Ytdffghaledkfeaa
open Go Go.RowKit
set_option maxRecDepth 100000
section
variable {w : World} {B r : Nat} {wv cv : Value} {x : Rs}

set_option maxHeartbeats 8000000 in
theorem rdo2_full (h : RefAt w B r wv cv x.way x.cl) (k : Nat) (hk : k < x.way.length) (hf : ¬ (x.cl.filter (toP x.way[k].t)).length < 64) (p : Pk) :
    Calls Try.prog 10 #[.pointer (some ⟨r, 0, none⟩), .agg #[.int .i64 2, .int .i64 (k : Int), .int .i64 p.f, .int .i64 p.t, .string p.d]] w (RDoV B r wv cv x.no w) := by
  obtain ⟨b, off, cap, rfl, _, _⟩ := h.row.sl.shape (by omega)
  obtain ⟨Ac, capc, rfl, _, _⟩ := h.crow.sl.any
  have hg0 := h.rlt
  have hg1 : ¬ r = w.heap.size := by omega
  have hfew := h.few
  have hcfew := h.cfew
  have i0 : decide ((0 : Int) ≤ (k : Int)) = true := decide_eq_true (by omega)
  have i1 : decide ((k : Int) < (x.way.length : Int)) = true := decide_eq_true (by omega)
  have hbl1 := (ins w ⟨2, k, p⟩).bl
  have c0' := (h.below hbl1).cc0
  have c1' := (h.below hbl1).cc1
  obtain ⟨d0', d1', d2'⟩ := (h.below hbl1).row.pk hk
  have hin := ins_drew (ins_drew (ins w ⟨2, k, p⟩))
  have HC := Lib.hid (to_any (h.below hin.bl) x.way[k].t)
  have HI := Lib.hid hin
  have HH := Lib.hid h
  have HA := Lib.hid (fun w2 hh => raft (w2 := w2) (x' := x) h hin hh)
  clear h hin hbl1
  generalize x.way[k] = u at *
  have h64 : (64 : Int) ≤ ((x.cl.filter (toP u.t)).length : Int) := by omega
  clear hf
  unfold stpObj zObj at HC HA HI c0' c1' d0' d1' d2'
  go_enter Try.func10, Try.ntmps10
  go_wp2_with fail
  go_region
  go_wp2_with fail
  go_region_with ((go_at_call 19; refine HC.out.mono ?_; rintro e w2 ⟨A9, cap9, rfl, hrow, hb⟩; have hf := HA.out w2 (RGot.self (HH.out.below HI.out.bl) hb); have HB9 := Lib.hid (And.intro hrow hb); clear hrow hb; obtain ⟨z0, z1, z2⟩ := cell_z (show w2.heap[w.heap.size + 1 + 1]? = _ from hf.h2); obtain ⟨x0, x1, x2⟩ := cell_z hf.h1; have ff : ∀ o, w2.frozen? ⟨w.heap.size + 1, o, none⟩ = false := row_froz hf.h1; have HF := Lib.hid hf; clear hf))
  all_goals
    have t3 := three_of HF.out.h1 rfl (.int .i64 0) (.int .i64 0) (.string ⟨#[]⟩)
    obtain ⟨s0, s1, s2⟩ := t3
    go_wp2_with fail
    (try simp only [Exit.inBlock, Exit.then])
    refine bodyPost_ret (by simp [results, Try.results10, go_sem, s0, s1, s2]; try rfl) rfl ?_
    exact ⟨rfl, HF.out.fin _ _ _⟩
end
end Go.Proofs.Ytdffghaledkfeaa
