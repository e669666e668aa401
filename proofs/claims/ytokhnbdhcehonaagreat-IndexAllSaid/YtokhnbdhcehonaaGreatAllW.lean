/- index: the walk of IndexAll. -/
import Derived.Test.YtokhnbdhcehonaaGreatRAll
import Derived.Test.YtokhnbdhcehonaaGreatSame
import Derived.Test.YtokhnbdhcehonaaGreatLg
import Derived.Test.YtokhnbdhcehonaaGreatOpen18
set_option linter.unusedSimpArgs false
set_option linter.unusedVariables false
namespace Go.Proofs.YtokhnbdhcehonaaGreat
open Go Go.RowKit Row
set_option maxRecDepth 100000
def AlV (w : World) (r : Ending) (w' : World) : Prop := r = .returned (.bool true) ∧ Below w.heap.size w w'
set_option maxHeartbeats 32000000 in
theorem all_walk {m l : List Ch} {u v : Value} {w : World} (hm : Ro w u m) (h : Ro w v l) (hok : ∀ x ∈ l, x.ok) : Calls Tryz.prog 3 #[u, v] w (AlV w) := by
  have HM := Lib.hid hm
  have HL := Lib.hid h
  have HOK := Lib.hid hok
  have HLM := Lib.hid (large_any hm)
  have HLL := Lib.hid (large_any h)
  obtain ⟨Am, capm, hvm, hlcm, hcapm⟩ := hm.any
  subst hvm
  obtain ⟨A, cap, hv, hlc, hcap⟩ := h.any
  subst hv
  clear h hm hok
  have hm63 : maxLen = 9223372036854775807 := rfl
  go_enter Tryz.func3, Tryz.ntmps3
  go_wp2_with fail
  refine HLM.out.mono ?_
  rintro r w1 ⟨b, rfl, hb40, hww⟩
  obtain rfl := hww
  have H40 := Lib.hid hb40
  clear hb40 HLM
  cases b with
  | true =>
    go_wp2_with fail
    refine (kn_any _).mono ?_
    rintro r w2 ⟨rfl, hb2⟩
    go_wp2_with fail
    go_ret
    exact ⟨rfl, hb2⟩
  | false =>
  have HM40 : Hid (m.length ≤ 40) := Lib.hid (H40.out rfl)
  go_wp2_with fail
  refine HLL.out.mono ?_
  rintro r w2 ⟨b, rfl, hb41, hww⟩
  obtain rfl := hww
  have H41 := Lib.hid hb41
  clear hb41 HLL
  cases b with
  | true =>
    go_wp2_with fail
    refine (kn_any _).mono ?_
    rintro r w3 ⟨rfl, hb2⟩
    go_wp2_with fail
    go_ret
    exact ⟨rfl, hb2⟩
  | false =>
  have hl40 : l.length ≤ 40 := H41.out rfl
  have HMD := Lib.hid (made_any HM.out (Nat.le_trans HM40.out (by decide)))
  have hmo := madeC_ok m m.length (Nat.le_refl _)
  rw [List.take_length] at hmo
  have HRI := Lib.hid hmo.1
  have HFE := Lib.hid (hmo.2.up HM40.out)
  clear hmo
  generalize madeC m = c at HMD HRI HFE
  have HFG : Hid (Few ((goC c l).getD c) 100) := Lib.hid (by
    cases hg : goC c l with
    | none => exact HFE.out.up (by decide)
    | some d => exact (goC_few HFE.out hg).up (by omega))
  go_wp2_with fail
  refine HMD.out.mono ?_
  rintro r w3 ⟨cv, rfl, hca, hb3⟩
  have HB3 := Lib.hid (hb3.trans (bel_box (o := .cells (arr cv) (RowT.T Cv)) |>.mono hb3.size))
  have HC3 := Lib.hid (hca.below (bel_box (o := .cells (arr cv) (RowT.T Cv))))
  have HX3 := Lib.hid (heap_alloc_new w3 (.cells (arr cv) (RowT.T Cv)))
  have HAL := Lib.hid (all_ro HC3.out (HFE.out.up (by decide)) HRI.out (HL.out.below HB3.out) (by omega))
  obtain ⟨g, hg⟩ : ∃ g, g = w3.heap.size := ⟨_, rfl⟩
  clear hca hb3 HMD
  go_wp2_with (first
    | (refine rw_put (α := Cv) _ 5 (.tmp 18) rfl rfl rfl rfl rfl rfl cv rfl rfl ?_)
    | (refine rw_load (α := Cv) rfl (.tmp 5) rfl w3.heap.size 0 rfl cv (range_row HX3.out) ?_))
  rw [← hg]
  rw [← hg] at HX3
  clear hg
  refine HAL.out.mono ?_
  rintro r w4 ⟨cv1, rfl, hca1, hb4⟩
  have HB4 := Lib.hid (HB3.out.trans ((hb4.trans (bel_box (o := .cells (arr cv1) (RowT.T Cv)) |>.mono hb4.size)).mono HB3.out.size))
  have HC4 := Lib.hid ((HC3.out.below hb4).below (bel_box (o := .cells (arr cv1) (RowT.T Cv))))
  have HX4 := Lib.hid (heap_old_at (o := .cells (arr cv1) (RowT.T Cv)) ((hb4.block _ (heap_lt HX3.out)).trans HX3.out))
  have HD4 := Lib.hid (hca1.below (bel_box (o := .cells (arr cv1) (RowT.T Cv))))
  have HY4 := Lib.hid (heap_alloc_new w4 (.cells (arr cv1) (RowT.T Cv)))
  have HRA := Lib.hid (rall_any HC4.out (HFE.out.up (by decide)) HRI.out (HL.out.below HB4.out) (by omega) HOK.out)
  generalize (goC c l).getD c = d at *
  generalize (goC c l).isSome = q at *
  obtain ⟨g1, hg1⟩ : ∃ g1, g1 = w4.heap.size := ⟨_, rfl⟩
  clear hca1 hb4 HAL
  go_wp2_with (first
    | (refine rw_put (α := Cv) _ 6 (.tmp 23) rfl rfl rfl rfl rfl rfl cv1 rfl rfl ?_)
    | (refine rw_load (α := Cv) rfl (.tmp 5) rfl g 0 rfl cv (range_row HX4.out) ?_))
  rw [← hg1]
  rw [← hg1] at HY4
  clear hg1
  refine HRA.out.mono ?_
  rintro r w5 ⟨cv2, rfl, hca2, hb5⟩
  have HB5 := Lib.hid (HB4.out.trans ((hb5.trans (bel_box (o := .cells (arr cv2) (RowT.T Cv)) |>.mono hb5.size)).mono HB4.out.size))
  have HD5 := Lib.hid ((HD4.out.below hb5).below (bel_box (o := .cells (arr cv2) (RowT.T Cv))))
  have HY5 := Lib.hid (heap_old_at (o := .cells (arr cv2) (RowT.T Cv)) ((hb5.block _ (heap_lt HY4.out)).trans HY4.out))
  have HE5 := Lib.hid (hca2.below (bel_box (o := .cells (arr cv2) (RowT.T Cv))))
  have HZ5 := Lib.hid (heap_alloc_new w5 (.cells (arr cv2) (RowT.T Cv)))
  have HSA := Lib.hid (same_self HD5.out HE5.out HFG.out)
  clear hca2 hb5 HRA
  cases q
  all_goals
    go_wp2_with (first
      | (refine rw_put (α := Cv) _ 8 (.tmp 29) rfl rfl rfl rfl rfl rfl cv2 rfl rfl ?_)
      | (refine rg_load (α := Cv) rfl (.tmp 6) rfl g1 0 rfl cv1 (range_row HY5.out) ?_)
      | (refine rg_load (α := Cv) rfl (.tmp 8) rfl w5.heap.size 0 rfl cv2 (range_row HZ5.out) ?_))
    refine HSA.out.mono ?_
    rintro r w6 ⟨rfl, hb6⟩
    have HB6 := Lib.hid (HB5.out.trans (hb6.mono HB5.out.size))
    clear hb6
    go_wp2_with fail
    refine (kn_any _).mono ?_
    rintro r w7 ⟨rfl, hb7⟩
    have HB7 := Lib.hid (HB6.out.trans (hb7.mono HB6.out.size))
    clear hb7
    go_wp2_with fail
    go_ret
    exact ⟨rfl, HB7.out⟩
theorem all_all (A : Option Addr) (M : List Ch) (cap : Nat) (hc : M.length ≤ cap) (hm : cap ≤ maxLen) (_hM : ∀ x ∈ M, x.ok) (B : Option Addr) (L : List Ch) (kap : Nat) (hc2 : L.length ≤ kap) (hm2 : kap ≤ maxLen) (hL : ∀ x ∈ L, x.ok) (w : World) (hs : RowsAt w A 18 (M.map cells)) (hs2 : RowsAt w B 18 (L.map cells)) :
    Calls Tryz.prog 3 #[.slice A M.length cap, .slice B L.length kap] w fun e w' => e = .returned (.bool true) ∧ Below w.heap.size w w' := all_walk (ro_of hc hm hs) (ro_of hc2 hm2 hs2) hL
end Go.Proofs.YtokhnbdhcehonaaGreat
