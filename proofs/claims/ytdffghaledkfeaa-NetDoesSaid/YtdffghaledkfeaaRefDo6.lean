/- posthouseref25.Net.Do: Clear. -/
import Derived.Test.YtdffghaledkfeaaRefDo5
namespace Go.Proofs.Ytdffghaledkfeaa
open Go Go.RowKit
set_option maxRecDepth 100000
section
variable {w : World} {B r : Nat} {wv cv : Value} {x : Rs}

set_option maxHeartbeats 8000000 in
theorem rdo6 (h : RefAt w B r wv cv x.way x.cl) (hB : B ≤ w.heap.size) (s : Stp) (hk : s.k = 6) :
    Calls Try.prog 10 #[.pointer (some ⟨r, 0, none⟩), .agg #[.int .i64 s.k, .int .i64 s.i, .int .i64 s.p.f, .int .i64 s.p.t, .string s.p.d]] w (RDoV B r wv cv (x.clear s.i) w) := by
  have hcfew := h.cfew
  have c0' := (h.below (ins w s).bl).cc0
  have hin := ins_drew (ins w s)
  have HC := Lib.hid (to_any (h.below hin.bl) s.i)
  obtain ⟨K, hK⟩ : ∃ K, K = (x.cl.filter (toP s.i)).length := ⟨_, rfl⟩
  have hK1 : K ≤ 1000 := by rw [hK]; exact Nat.le_trans (List.length_filter_le _ _) hcfew
  obtain ⟨W1, hW1⟩ : ∃ W1, W1 = (((w.alloc (stpObj s)).alloc zObj).alloc zObj).drew := ⟨_, rfl⟩
  have h0 : ∀ w2, Below W1.heap.size W1 w2 → RGot B r wv cv ⟨x.way, nextN 0 x.cl s.i⟩ W1 w2 := fun w2 hb => RGot.self (x := x) (by rw [hW1]; exact h.below hin.bl) hb
  have hA : ∀ j w2, RGot B r wv cv ⟨x.way, nextN j x.cl s.i⟩ W1 w2 → RAft B r wv cv w w2 s ⟨x.way, nextN j x.cl s.i⟩ := fun j w2 hh => raft h (by rw [hW1]; exact hin) hh
  have hBW : B ≤ W1.heap.size := by rw [hW1]; exact Nat.le_trans hB hin.bl.size
  have hS : ∀ j w2, RGot B r wv cv ⟨x.way, nextN j x.cl s.i⟩ W1 w2 → Calls Try.prog 23 #[.pointer (some ⟨r, 0, none⟩), .int .i64 s.i] w2 fun e w' => (∃ v, e = .returned v) ∧ RGot B r wv cv ⟨x.way, nextN (j + 1) x.cl s.i⟩ W1 w' := by
    intro j w2 hh
    obtain ⟨wv', cv', hT, hR⟩ := hh
    refine (rnext_got (x := ⟨x.way, nextN j x.cl s.i⟩) hR (Nat.le_trans hBW hT.size) s.i).mono ?_
    rintro e w' ⟨rfl, wv2, cv2, hT2, hR2⟩
    refine ⟨⟨_, rfl⟩, wv2, cv2, hT.trans hT2, ?_⟩
    have e1 : (Rs.next ⟨x.way, nextN j x.cl s.i⟩ s.i).x = ⟨x.way, nextN (j + 1) x.cl s.i⟩ := by
      show _ = (⟨x.way, nextL (nextN j x.cl s.i) s.i⟩ : Rs)
      unfold Rs.next nextL
      simp only
      split <;> simp_all [Rs.no]
    rw [e1] at hR2
    exact hR2
  rw [← hW1] at HC
  obtain ⟨R, hRd⟩ : ∃ R : Nat → World → Prop, R = fun j w2 => RGot B r wv cv ⟨x.way, nextN j x.cl s.i⟩ W1 w2 := ⟨_, rfl⟩
  have H0 := Lib.hid (show ∀ w2, Below W1.heap.size W1 w2 → R 0 w2 by rw [hRd]; exact h0)
  have HA := Lib.hid (show ∀ j w2, R j w2 → RAft B r wv cv w w2 s ⟨x.way, nextN j x.cl s.i⟩ by rw [hRd]; exact hA)
  have HS := Lib.hid (show ∀ j w2, R j w2 → Calls Try.prog 23 #[.pointer (some ⟨r, 0, none⟩), .int .i64 s.i] w2 fun e w' => (∃ v, e = .returned v) ∧ R (j + 1) w' by rw [hRd]; exact hS)
  have HKK := Lib.hid hK
  have hdz : RDid.mk ⟨x.way, nextN K x.cl s.i⟩ zpk K (decide (0 < K)) = x.clear s.i := by rw [hK]; rfl
  rw [← hdz]
  obtain ⟨A, cap, rfl, _, _⟩ := h.row.sl.any
  obtain ⟨Ac, capc, rfl, _, _⟩ := h.crow.sl.any
  have hg0 := h.rlt
  have hg1 : ¬ r = w.heap.size := by omega
  have hfew := h.few
  have hcfew := h.cfew
  have h3 := three_dec s.i x.way.length
  clear h hin h0 hA hS hRd hdz
  unfold stpObj zObj at c0' hW1
  rw [hk] at hW1 c0' ⊢
  clear hK
  rcases h3 with ⟨i0, i1⟩ | i0 | ⟨i0, i1⟩
  all_goals
    go_enter Try.func10, Try.ntmps10
    go_wp2_with fail
    go_region
    go_wp2_with fail
    rw [← hW1]
    refine HC.out.mono ?_
    rintro e w2 ⟨A9, cap9, rfl, hrow, hb⟩
    have hr0 := H0.out w2 hb
    have HR0 := Lib.hid hr0
    rw [← HKK.out]
    clear hrow hb hr0
    go_wp2_with fail
    go_loopw [12] (fun n wr => ∃ j : Nat, j ≤ K ∧ n = .int .i64 j ∧ R j wr) (fun n _ => K - (intOf n).toNat)
    case atStart => exact ⟨0, by omega, rfl, HR0.out⟩
    case round =>
      obtain ⟨j, hj, rfl, hr⟩ := hrel
      have hf := HA.out j wr hr
      have HR := Lib.hid hr
      clear hr
      by_cases hlt : j < K
      · have y := (cell_s hf.h0).2.1
        clear hf
        go_wp2_with fail
        refine (HS.out j wr HR.out).mono ?_
        rintro e w3 ⟨⟨v, rfl⟩, hr3⟩
        have HR3 := Lib.hid hr3
        clear hr3
        go_wp2_with fail
        go_roundw
        case rel => exact ⟨j + 1, by omega, by go_num, HR3.out⟩
        case measure => simp [intOf]; omega
      · obtain rfl : j = K := by omega
        obtain ⟨z0, z1, z2⟩ := cell_z (show wr.heap[w.heap.size + 1 + 1]? = _ from hf.h2)
        obtain ⟨x0, x1, x2⟩ := cell_z hf.h1
        have ff : ∀ o, wr.frozen? ⟨w.heap.size + 1, o, none⟩ = false := row_froz hf.h1
        have HF := Lib.hid hf
        clear hf
        have t3 := three_of HF.out.h1 rfl (.int .i64 0) (.int .i64 0) (.string ⟨#[]⟩)
        obtain ⟨s0, s1, s2⟩ := t3
        go_wp2_with fail
        (try simp only [Exit.inBlock, Exit.then])
        refine bodyPost_ret (by simp [results, Try.results10, go_sem, s0, s1, s2]; try rfl) rfl ?_
        exact ⟨by simp [zpk], HF.out.fin _ _ _⟩
end
end Go.Proofs.Ytdffghaledkfeaa
