/- posthouseref25.Net.Do: Deliver. -/
import Derived.Test.YtdffghaledkfeaaRefDo2
import Derived.Deep.CutRange
namespace Go.Proofs.Ytdffghaledkfeaa
open Go Go.RowKit
set_option maxRecDepth 100000
section
variable {w : World} {B r : Nat} {wv cv : Value} {x : Rs}

theorem ins_below {w W W' : World} {s : Stp} (h : Ins w W s) (hb : Below W.heap.size W W') : Ins w W' s :=
  ⟨h.bl.trans (hb.mono h.bl.size), (hb.block _ (heap_lt h.c0)).trans h.c0, (hb.block _ (heap_lt h.c1)).trans h.c1, (hb.block _ (heap_lt h.c2)).trans h.c2⟩
theorem RefAt.app {way cl : List Pk} (h : RefAt w B r wv cv way cl) {w0 w1 : World} (hb : Below w.heap.size w w0) {p : Pk} {v' : Value} (hsl : Sl w1 B 23 3 v' (cl.length + 1) (cells3 cl ++ [.int .i64 p.f, .int .i64 p.t, .string p.d]))
    (hg : w0.grownBy w1 cv.ownBlock) (ho : ∀ k, v'.ownBlock = some k → cv.ownBlock = some k ∨ w0.heap.size ≤ k) (hl : cl.length < 1000) :
    w1.cell? ⟨r, 1, none⟩ = some cv ∧ w1.frozen? ⟨r, 1, none⟩ = false ∧ RefAt (w1.setCell ⟨r, 1, none⟩ v') B r wv v' way (cl ++ [p]) ∧ RTurn r w (w1.setCell ⟨r, 1, none⟩ v') wv wv cv v' :=
  h.putCame hb (rw_app hsl) hg (fun q hq => (ho q hq).imp id .inl) (by simp; omega)
set_option maxHeartbeats 16000000 in
theorem rdo2_yes (h : RefAt w B r wv cv x.way x.cl) (hB : B ≤ w.heap.size) (k : Nat) (hk : k < x.way.length) (hf : (x.cl.filter (toP x.way[k].t)).length < 64) (hc : x.cl.length < 1000) (p : Pk) :
    Calls Try.prog 10 #[.pointer (some ⟨r, 0, none⟩), .agg #[.int .i64 2, .int .i64 (k : Int), .int .i64 p.f, .int .i64 p.t, .string p.d]] w (RDoV B r wv cv ⟨⟨out x.way k, x.cl ++ [x.way[k]]⟩, zpk, 0, true⟩ w) := by
  obtain ⟨j0, hi, hz0, hz1, hz2⟩ := info_parts info23
  obtain ⟨b, off, cap, rfl, _, _⟩ := h.row.sl.shape (by omega)
  obtain ⟨Ac, capc, rfl, _, _⟩ := h.crow.sl.any
  have hg0 := h.rlt
  have hg1 : ¬ r = w.heap.size := by omega
  have hfew := h.few
  have hcfew := h.cfew
  have i0 : decide ((0 : Int) ≤ (k : Int)) = true := decide_eq_true (by omega)
  have i1 : decide ((k : Int) < (x.way.length : Int)) = true := decide_eq_true (by omega)
  have hbl1 := (ins w ⟨2, k, p⟩).bl
  have c0' := (h.below hbl1).cc0
  have c1' := (h.below hbl1).cc1
  obtain ⟨d0', d1', d2'⟩ := (h.below hbl1).row.pk hk
  have hin := ins_drew (ins_drew (ins w ⟨2, k, p⟩))
  have HC := Lib.hid (to_any (h.below hin.bl) x.way[k].t)
  have HI := Lib.hid hin
  have HH := Lib.hid h
  have HA := Lib.hid (fun (W w2 : World) (hi : Ins w W ⟨2, k, p⟩) (hh : RGot B r (.slice (some ⟨b, off, none⟩) x.way.length cap) (.slice Ac x.cl.length capc) ⟨out x.way k, x.cl ++ [x.way[k]]⟩ W w2) => raft (w2 := w2) (x' := ⟨out x.way k, x.cl ++ [x.way[k]]⟩) h hi hh)
  have hpk := fun (W : World) (cv' : Value) (cl' : List Pk) (hR : RefAt W B r (.slice (some ⟨b, off, none⟩) x.way.length cap) cv' x.way cl') => hR.row.pk hk
  have HPK := Lib.hid hpk
  clear h hin hbl1 hpk
  generalize x.way[k] = u at *
  have h64 : ¬ (64 : Int) ≤ ((x.cl.filter (toP u.t)).length : Int) := by omega
  clear hf
  have HC0 := Lib.hid hc
  have HB0 := Lib.hid hB
  unfold stpObj zObj at HC c0' c1' d0' d1' d2'
  have hI := HI.out
  unfold stpObj zObj at hI
  have HIU := Lib.hid hI
  clear hI HI
  go_enter Try.func10, Try.ntmps10
  go_wp2_with fail
  go_region
  go_upto_region 7 with fail
  go_cut [54] from 38 to 54 (fun s54 wx => s54 = .bool false ∧ Ins w wx ⟨2, k, p⟩)
  case first =>
    go_region_with ((go_at_call 19; refine HC.out.mono ?_; rintro e w2 ⟨A9, cap9, rfl, hrow, hb⟩; have hin2 := Lib.hid (ins_below HIU.out hb); clear hrow hb))
    all_goals
      go_wp2_with fail
      go_meet
      exact ⟨by first | rfl | (congr 1; exact decide_eq_false (by omega)), hin2.out⟩
  case rest =>
  obtain ⟨rfl, hin2⟩ := hcut
  obtain ⟨w2, hw2⟩ : ∃ w2, w2 = wc := ⟨_, rfl⟩
  subst hw2
  have hat2 := HH.out.below hin2.bl
  have g0 := hat2.cc0
  have g1 := hat2.cc1
  obtain ⟨e0, e1, e2⟩ := HPK.out _ _ _ hat2
  have y2 := (cell_s hin2.c0).2.1
  have hr2 := hat2.rlt
  have hr3 : ¬ r = w2.heap.size := by omega
  have hw2 := heap_lt hin2.c2
  have hbb := hat2.row.sl.lt b rfl
  have hbb2 : ¬ b = w2.heap.size := by omega
  have hww : ¬ w.heap.size = w2.heap.size := by omega
  have HAT2 := Lib.hid hat2
  have HIN2 := Lib.hid hin2
  clear hat2 hin2 c0' c1' d0' d1' d2'
  go_upto_region 9 with fail
  go_cut [] from 55 to 72 (fun wx => ∃ b' off' cap', RTurn r w2 wx (.slice (some ⟨b, off, none⟩) x.way.length cap) (.slice (some ⟨b, off, none⟩) x.way.length cap) (.slice Ac x.cl.length capc) (.slice (some ⟨b', off', none⟩) (x.cl.length + 1) cap') ∧ RefAt wx B r (.slice (some ⟨b, off, none⟩) x.way.length cap) (.slice (some ⟨b', off', none⟩) (x.cl.length + 1) cap') x.way (x.cl ++ [u]))
  case first =>
    go_region_law (refine step_append_sl rfl (.tmp 60) (.tmp 69) 30 rfl 23 j0 (.agg #[.int .i64 0, .int .i64 0, .string ⟨#[]⟩]) 3 32 Try.underlying30 hi hz0 hz1 hz2 rfl (by decide) (v := .slice Ac x.cl.length capc) (by simp [Act.eval, Act.put]) (HAT2.out.crow.sl.below (by go_grown)) (some ⟨w2.heap.size, 0, none⟩) 1 1 [.int .i64 u.f, .int .i64 u.t, .string u.d] (by simp [Act.eval, Act.put]) (by simp) rfl (row_news3 (heap_new_at _ _ (by first | rfl | simp))) (by intro u hu; simp at hu; rcases hu with rfl | rfl | rfl <;> rfl) (by unfold maxLen; omega) (by omega) (by exact Nat.le_trans HB0.out (Nat.le_trans HIN2.out.bl.size (show Below w2.heap.size w2 _ by go_grown).size)) ?_; intro v4 w4 hsl hgrow hown; obtain ⟨b', off', cap', rfl, _, _⟩ := hsl.shape (by omega); obtain ⟨q0, qf, hR, hT⟩ := HAT2.out.app (p := u) (show Below w2.heap.size w2 _ by go_grown) hsl hgrow hown HC0.out; have HRT := Lib.hid (And.intro hR hT); clear hsl hgrow hown hR hT)
    all_goals
      go_wp2_with fail
      go_meet
      exact ⟨b', off', cap', HRT.out.2, HRT.out.1⟩
  case rest =>
  obtain ⟨b', off', cap', hT, hR⟩ := hcut
  obtain ⟨w5, hw5⟩ : ∃ w5, w5 = wc := ⟨_, rfl⟩
  subst hw5
  have y5 := (cell_s (raft (x' := ⟨x.way, x.cl ++ [u]⟩) HH.out HIN2.out ⟨_, _, hT, hR⟩).h0).2.1
  have g5 := hR.cc0
  have hbd : Below w5.heap.size w5 w5.drew := by go_grown
  have hRd := hR.below hbd
  have hBd : B ≤ w5.drew.heap.size := Nat.le_trans HB0.out (Nat.le_trans HIN2.out.bl.size hT.size)
  have HC2 := Lib.hid (without_any (some ⟨b, off, none⟩) cap k x.way _ hRd.row hk (by omega))
  have HP2 := Lib.hid (fun w2 hb v' hr => hRd.wayOut hBd (w2 := w2) hb (L := out x.way k) (v' := v') hr (by rw [out_len hk]; omega))
  have ha2 : ∀ w7, RGot B r (.slice (some ⟨b, off, none⟩) x.way.length cap) (.slice (some ⟨b', off', none⟩) (x.cl.length + 1) cap') ⟨out x.way k, x.cl ++ [u]⟩ w5.drew w7 → RAft B r (.slice (some ⟨b, off, none⟩) x.way.length cap) (.slice Ac x.cl.length capc) w w7 ⟨2, k, p⟩ ⟨out x.way k, x.cl ++ [u]⟩ := by
    rintro w7 ⟨wv', cv', hT', hR'⟩
    exact HA.out w2 w7 HIN2.out ⟨wv', cv', (hT.trans (RTurn.of_below hbd)).trans hT', hR'⟩
  have HA2 := Lib.hid ha2
  clear hR hT hbd hRd hBd ha2 g0 g1 e0 e1 e2 y2
  go_upto_region 10 with fail
  go_cut [] from 73 to 82 (fun wx => RAft B r (.slice (some ⟨b, off, none⟩) x.way.length cap) (.slice Ac x.cl.length capc) w wx ⟨2, k, p⟩ ⟨out x.way k, x.cl ++ [u]⟩)
  case first =>
    go_region_with ((go_at_call 22; refine HC2.out.mono ?_; rintro e w6 ⟨A3, cap3, rfl, hrow, hb⟩; obtain ⟨q0, qf, hgot⟩ := HP2.out w6 hb _ hrow; have hf := Lib.hid (HA2.out _ hgot); clear hgot hrow hb))
    all_goals
      go_wp2_with fail
      go_meet
      exact hf.out
  case rest =>
  have hf := hcut
  clear hcut
  obtain ⟨w7, hw7⟩ : ∃ w7, w7 = wc := ⟨_, rfl⟩
  subst hw7
  obtain ⟨z0, z1, z2⟩ := cell_z (show w7.heap[w.heap.size + 1 + 1]? = _ from hf.h2)
  obtain ⟨x0, x1, x2⟩ := cell_z hf.h1
  have ff : ∀ o, w7.frozen? ⟨w.heap.size + 1, o, none⟩ = false := row_froz hf.h1
  have HF := Lib.hid hf
  clear hf
  have t3 := three_of HF.out.h1 rfl (.int .i64 0) (.int .i64 0) (.string ⟨#[]⟩)
  obtain ⟨s0, s1, s2⟩ := t3
  go_wp2_with fail
  (try simp only [Exit.inBlock, Exit.then])
  refine bodyPost_ret (by simp [results, Try.results10, go_sem, s0, s1, s2]; try rfl) rfl ?_
  exact ⟨rfl, HF.out.fin _ _ _⟩
end
end Go.Proofs.Ytdffghaledkfeaa
