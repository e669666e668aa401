/- NetFull: the walk. -/
import Derived.Test.YtdffghaledkfeaaRefDo1
import Derived.Test.YtdffghaledkfeaaKnown
import Derived.Test.YtdffghaledkfeaaOpen
namespace Go.Proofs.Ytdffghaledkfeaa
open Go Go.RowKit
set_option maxRecDepth 100000
def Pk.ok (x : Pk) : Prop := x.d.size ≤ maxLen
theorem pk_of_typed {vs : List Value} (h : Typed [2, 2, 1] vs) : ∃ x : Pk, vs = x.row ∧ x.ok := by
  match vs, h with
  | [v0, v1, v2], ⟨h0, h1, h2, _⟩ =>
    cases v0 <;> simp [leafOk] at h0
    cases v1 <;> simp [leafOk] at h1
    cases v2 <;> simp [leafOk] at h2
    obtain ⟨rfl, _⟩ := h0
    obtain ⟨rfl, _⟩ := h1
    exact ⟨⟨_, _, _⟩, rfl, h2⟩
/-- the packet boxed, the net behind it -/
structure Fu (w : World) (p : Pk) (g mb : Nat) (wr : World) (way : List Pk) (cm : List Pk) (cb : Nat) : Prop where
  bl : Below w.heap.size w wr
  box : wr.heap[w.heap.size]? = some (pkObj p)
  net : ∃ c v V came, c ≤ cb ∧ came p.t = cm ∧ NA wr (w.heap.size + 1) g mb c v V ⟨way, came⟩
theorem Fu.step {w wr w' : World} {p : Pk} {g mb : Nat} {way cm : List Pk} {cb c : Nat} {v : Value} {V : Int → Value} {came : Int → List Pk} (h : Fu w p g mb wr way cm cb) (hN : NA wr (w.heap.size + 1) g mb c v V ⟨way, came⟩)
    {d : Did} (hc : c ≤ cb) (hg : ∃ c' v' V', c' ≤ c + 1 ∧ Turn g mb wr w' v v' V V' ∧ NA w' (w.heap.size + 1) g mb c' v' V' d.x) : Fu w p g mb w' d.x.way (d.x.came p.t) (cb + 1) := by
  obtain ⟨c', v', V', h1, hT, hN'⟩ := hg
  have hlt := heap_lt h.box
  have hb : Below (w.heap.size + 1) wr w' := hT.below hN.at_ hlt
  exact ⟨h.bl.trans (hb.mono (by omega)), (hb.block _ (by omega)).trans h.box, c', v', V', d.x.came, by omega, rfl, hN'⟩

theorem small_may (p : Pk) (way : List Pk) (hf : May [] p) (hw : way.length < 512) : May way p := ⟨hw, hf.2⟩
set_option maxHeartbeats 8000000 in
theorem full_walk (p : Pk) (hp : p.ok) (m : Int) (hm : (Lit.int .u8 m).wf = true) (w : World) : Calls Try.prog 3 #[.agg #[.int .i64 p.f, .int .i64 p.t, .string p.d], .int .u8 m] w fun e w' => e = .returned (.bool true) ∧ Below w.heap.size w w' := by
  have hp : p.d.size ≤ 9223372036854775807 := hp
  have hm0 : 0 ≤ m ∧ m ≤ 255 := by
    simp only [Lit.wf, Bool.and_eq_true, decide_eq_true_eq] at hm
    exact hm
  obtain ⟨hm1, hm2⟩ := hm0
  clear hm
  have HK := Lib.hid known_any
  have HNew := Lib.hid new_any
  by_cases hbig : (100 : Int) < (p.d.size : Int)
  · go_enter Try.func3, Try.ntmps3
    go_wp2_with fail
    refine (HK.out _).mono ?_
    rintro e w2 ⟨rfl, hb⟩
    have hg : Below w.heap.size w (w.alloc (.cells #[.int .i64 p.f, .int .i64 p.t, .string p.d] 23)) := by go_grown
    have HB := Lib.hid (hg.trans (hb.mono hg.size))
    clear hg hb
    go_wp2_with fail
    go_returns
    exact ⟨rfl, HB.out⟩
  go_enter Try.func3, Try.ntmps3
  go_wp2_with fail
  refine (HNew.out _).mono ?_
  rintro e w1 ⟨g, mb, rfl, hb1, hN1⟩
  have hg : Below w.heap.size w (w.alloc (pkObj p)) := by unfold pkObj; go_grown
  have hfu : Fu w p g mb w1 [] [] 0 := by
    refine ⟨hg.trans (hb1.mono hg.size), (hb1.block _ (heap_lt (heap_alloc_new w (pkObj p)))).trans (heap_alloc_new w (pkObj p)), 0, nilS, fun _ => nilS, fun _ => [], Nat.le_refl _, rfl, ⟨?_, by simp⟩⟩
    have := hN1
    rw [show (w.alloc (.cells #[.int .i64 p.f, .int .i64 p.t, .string p.d] 23)).heap.size = w.heap.size + 1 from alloc_size _ _] at this
    exact this
  have HF1 := Lib.hid hfu
  clear hg hb1 hN1 hfu
  by_cases hmay : May [] p
  · have hok := kok_of hmay.2.2.1
    have HM := Lib.hid hmay
    have HOK := Lib.hid hok
    clear hmay hok
    go_wp2_with fail
    go_loopw [6, 7] (fun s i wr => ∃ k : Nat, (k : Int) ≤ 512 + m % 4 ∧ s = .int .i64 (min k 512 : Nat) ∧ i = .int .i64 k ∧ Fu w p g mb wr (List.replicate (min k 512) p) [] k) (fun _ i _ => 515 - (intOf i).toNat)
    case atStart => exact ⟨0, by omega, rfl, rfl, HF1.out⟩
    case round =>
      obtain ⟨k, hk, rfl, rfl, hfu⟩ := hrel
      have hk5 : k ≤ 515 := by omega
      obtain ⟨c, v, V, came, hcb, hcm, hN⟩ := hfu.net
      obtain ⟨b0, b1, b2⟩ := cell_of_pk hfu.box
      by_cases hlt : (k : Int) < 512 + m % 4
      · have HS := Lib.hid (send_na hN (heap_lt hfu.box) p)
        by_cases h512 : k < 512
        · have hmn : min k 512 = k := by omega
          have hmn1 : min (k + 1) 512 = k + 1 := by omega
          have hd : Ns.send ⟨List.replicate (min k 512) p, came⟩ p = ⟨⟨List.replicate (min (k + 1) 512) p, came⟩, zpk, 0, true⟩ := by
            unfold Ns.send
            rw [if_pos (small_may p _ HM.out (by simp; omega)), hmn, hmn1, List.replicate_succ']
          rw [hd] at HS
          have HH := Lib.hid (fun w' hg => hfu.step (w' := w') (d := ⟨⟨List.replicate (min (k + 1) 512) p, came⟩, zpk, 0, true⟩) hN hcb hg)
          simp only [hcm] at HH
          clear hfu hN hcb hcm hd
          rw [hmn]
          go_wp2_with fail
          refine HS.out.mono ?_
          rintro e w2 ⟨rfl, hg⟩
          have HF := Lib.hid (HH.out w2 hg)
          clear hg
          go_wp2_with fail
          go_roundw
          case rel => exact ⟨k + 1, by omega, by rw [hmn1]; go_num, by go_num, HF.out⟩
          case measure => simp [intOf]; omega
        · have hmn : min k 512 = 512 := by omega
          have hmn1 : min (k + 1) 512 = 512 := by omega
          have hd : Ns.send ⟨List.replicate (min k 512) p, came⟩ p = ⟨⟨List.replicate (min (k + 1) 512) p, came⟩, zpk, 0, false⟩ := by
            unfold Ns.send
            rw [if_neg (fun h => by have := h.1; simp at this; omega), hmn, hmn1]; rfl
          rw [hd] at HS
          have HH := Lib.hid (fun w' hg => hfu.step (w' := w') (d := ⟨⟨List.replicate (min (k + 1) 512) p, came⟩, zpk, 0, false⟩) hN hcb hg)
          simp only [hcm] at HH
          clear hfu hN hcb hcm hd
          rw [hmn]
          go_wp2_with fail
          refine HS.out.mono ?_
          rintro e w2 ⟨rfl, hg⟩
          have HF := Lib.hid (HH.out w2 hg)
          clear hg
          go_wp2_with fail
          go_roundw
          case rel => exact ⟨k + 1, by omega, by rw [hmn1]; rfl, by go_num, HF.out⟩
          case measure => simp [intOf]; omega
      · have hmn : min k 512 = 512 := by omega
        rw [hmn] at hfu ⊢
        have HFU := Lib.hid hfu
        clear hfu hN hcb hcm hmn
        go_wp2_with fail
        go_loopw [11, 12] (fun s i wr => ∃ j : Nat, j ≤ 100 ∧ s = .int .i64 (min j 64 : Nat) ∧ i = .int .i64 j ∧ Fu w p g mb wr (List.replicate (512 - min j 64) p) (List.replicate (min j 64) p) (515 + j)) (fun _ i _ => 100 - (intOf i).toNat)
        case atStart => exact ⟨0, by omega, rfl, rfl, HFU.out.bl, HFU.out.box, by obtain ⟨c, v, V, came, h1, h2, h3⟩ := HFU.out.net; exact ⟨c, v, V, came, by omega, h2, h3⟩⟩
        case round =>
          obtain ⟨j, hj, rfl, rfl, hfu⟩ := hrel
          obtain ⟨c, v, V, came, hcb, hcm, hN⟩ := hfu.net
          obtain ⟨b0, b1, b2⟩ := cell_of_pk hfu.box
          have hth : Ns.there ⟨List.replicate (512 - min j 64) p, came⟩ 0 := ⟨by omega, by simp; omega⟩
          have hat : Ns.at ⟨List.replicate (512 - min j 64) p, came⟩ 0 = p := by
            unfold Ns.at
            rw [List.getD_eq_getElem?_getD]
            simp [show 0 < 512 - min j 64 by omega]
          by_cases hlt : j < 100
          · have HS := Lib.hid (deliver_na hN (heap_lt hfu.box) 0 (by omega))
            by_cases h64 : j < 64
            · have hmn : min j 64 = j := by omega
              have hmn1 : min (j + 1) 64 = j + 1 := by omega
              obtain ⟨d, hd⟩ : ∃ d, d = Ns.deliver ⟨List.replicate (512 - min j 64) p, came⟩ 0 := ⟨_, rfl⟩
              have hds : d = ⟨⟨List.replicate (512 - min (j + 1) 64) p, upd came p.t (came p.t ++ [p])⟩, zpk, 0, true⟩ := by
                rw [hd]
                unfold Ns.deliver
                rw [hat, if_pos ⟨hth, by show (came p.t).length < 64; rw [hcm]; simp; omega⟩, hmn, hmn1]
                have : out (List.replicate (512 - j) p) (0 : Int).toNat = List.replicate (512 - (j + 1)) p := by
                  obtain ⟨q, hq⟩ : ∃ q, 512 - j = q + 1 := ⟨511 - j, by omega⟩
                  have hq2 : 512 - (j + 1) = q := by omega
                  rw [hq, hq2]
                  simp [out, List.replicate_succ]
                rw [this]
              rw [← hd, hds] at HS
              have HH := Lib.hid (fun w' hg => hfu.step (w' := w') (d := ⟨⟨List.replicate (512 - min (j + 1) 64) p, upd came p.t (came p.t ++ [p])⟩, zpk, 0, true⟩) hN hcb hg)
              have HCM := Lib.hid hcm
              clear hfu hN hcb hd hds hth hat hcm
              rw [hmn]
              go_wp2_with fail
              refine HS.out.mono ?_
              rintro e w2 ⟨rfl, hg⟩
              have HF := Lib.hid (HH.out w2 hg)
              clear hg
              go_wp2_with fail
              go_roundw
              case rel =>
                have h := HF.out
                have e9 : List.replicate (min j 64) p ++ [p] = List.replicate (min (j + 1) 64) p := by rw [hmn, hmn1, List.replicate_succ']
                simp only [upd_same, HCM.out] at h
                rw [e9] at h
                exact ⟨j + 1, by omega, by rw [hmn1]; go_num, by go_num, h⟩
              case measure => simp [intOf]; omega
            · have hmn : min j 64 = 64 := by omega
              have hmn1 : min (j + 1) 64 = 64 := by omega
              have hd : Ns.deliver ⟨List.replicate (512 - min j 64) p, came⟩ 0 = ⟨⟨List.replicate (512 - min j 64) p, came⟩, zpk, 0, false⟩ := by
                unfold Ns.deliver
                rw [hat, if_neg (fun h => by have h2 : (came p.t).length < 64 := h.2; rw [hcm] at h2; simp at h2; omega)]; rfl
              rw [hd] at HS
              have HH := Lib.hid (fun w' hg => hfu.step (w' := w') (d := ⟨⟨List.replicate (512 - min j 64) p, came⟩, zpk, 0, false⟩) hN hcb hg)
              simp only [hcm] at HH
              clear hfu hN hcb hd hth hat hcm
              rw [hmn] at HH HS ⊢
              go_wp2_with fail
              refine HS.out.mono ?_
              rintro e w2 ⟨rfl, hg⟩
              have HF := Lib.hid (HH.out w2 hg)
              clear hg
              go_wp2_with fail
              go_roundw
              case rel => exact ⟨j + 1, by omega, by rw [hmn1]; rfl, by go_num, by rw [hmn1]; exact HF.out⟩
              case measure => simp [intOf]; omega
          · obtain rfl : j = 100 := by omega
            have hN2 := hN
            have HW := Lib.hid (way_any hN2.at_)
            have hwl : (List.replicate (512 - min 100 64) p).length = 448 := by simp
            have HWL := Lib.hid hwl
            have HNN := Lib.hid hN
            have HBX := Lib.hid hfu
            clear hfu hN hN2 hth hat hwl
            simp only [show min 100 64 = 64 from rfl]
            go_wp2_with fail
            refine HW.out.mono ?_
            rintro e w2 ⟨A, cap, rfl, hr, hb2⟩
            have hNw := HNN.out.below hb2
            have hlt2 := heap_lt HBX.out.box
            have hx2 : w2.heap[w.heap.size]? = some (pkObj p) := (hb2.block _ hlt2).trans HBX.out.box
            obtain ⟨x0, x1, x2⟩ := cell_of_pk hx2
            have hcl : Ns.clear ⟨List.replicate (512 - min 100 64) p, came⟩ p.t = ⟨⟨List.replicate (512 - min 100 64) p, upd came p.t []⟩, zpk, 64, true⟩ := by
              unfold Ns.clear
              rw [if_pos (by show 0 < (came p.t).length; rw [hcm]; simp)]
              show (⟨_, _, ((came p.t).length : Int), _⟩ : Did) = _
              rw [hcm]; simp
            have HCL := Lib.hid (clear_na hNw HOK.out (by omega))
            rw [hcl] at HCL
            have HB2 := Lib.hid (HBX.out.bl.trans (hb2.mono HBX.out.bl.size))
            have hsz2 : w.heap.size + 1 ≤ w2.heap.size := heap_lt hx2
            have HNW := Lib.hid hNw
            clear hr hb2 hNw hx2 hcl
            rw [HWL.out]
            go_wp2_with fail
            refine HCL.out.mono ?_
            rintro e w3 ⟨rfl, c3, v3, V3, hc3, hT3, hN3⟩
            have HB3 := Lib.hid (HB2.out.trans ((hT3.below HNW.out.at_ hsz2).mono (by omega)))
            clear hT3 hN3
            go_wp2_with fail
            refine (HK.out _).mono ?_
            rintro e w4 ⟨rfl, hb4⟩
            have HB4 := Lib.hid (HB3.out.trans (hb4.mono HB3.out.size))
            clear hb4
            go_wp2_with fail
            go_returns
            exact ⟨rfl, HB4.out⟩
  · go_wp2_with fail
    go_loopw [6, 7] (fun s i wr => ∃ k : Nat, k ≤ 515 ∧ s = .int .i64 0 ∧ i = .int .i64 k ∧ Fu w p g mb wr [] [] k) (fun _ i _ => 515 - (intOf i).toNat)
    case atStart => exact ⟨0, by omega, rfl, rfl, HF1.out⟩
    case round =>
      obtain ⟨k, hk, rfl, rfl, hfu⟩ := hrel
      obtain ⟨c, v, V, came, hcb, hcm, hN⟩ := hfu.net
      obtain ⟨b0, b1, b2⟩ := cell_of_pk hfu.box
      by_cases hlt : (k : Int) < 512 + m % 4
      · have HS := Lib.hid (send_na hN (heap_lt hfu.box) p)
        have hd : Ns.send ⟨[], came⟩ p = ⟨⟨[], came⟩, zpk, 0, false⟩ := by
          unfold Ns.send
          rw [if_neg hmay]; rfl
        rw [hd] at HS
        have HH := Lib.hid (fun w' hg => hfu.step (w' := w') (d := ⟨⟨[], came⟩, zpk, 0, false⟩) hN hcb hg)
        simp only [hcm] at HH
        clear hfu hN hcb hcm hd
        go_wp2_with fail
        refine HS.out.mono ?_
        rintro e w2 ⟨rfl, hg⟩
        have HF := Lib.hid (HH.out w2 hg)
        clear hg
        go_wp2_with fail
        go_roundw
        case rel => exact ⟨k + 1, by omega, rfl, by go_num, HF.out⟩
        case measure => simp [intOf]; omega
      · have hR : RefAt (wr.alloc (.cells #[.slice none 0 0, .slice none 0 0] 32)) wr.heap.size wr.heap.size nilS nilS [] [] :=
          ⟨heap_alloc_new wr _, Sl.nil _ _ _ _, Sl.nil _ _ _ _, disj_nil _, Nat.le_refl _, by simp, by simp⟩
        have HD := Lib.hid (rdo1 (x := ⟨[], []⟩) hR (by rw [alloc_size]; omega) ⟨1, 0, p⟩ rfl)
        have hd : (Rs.send ⟨[], []⟩ p).b = false := decide_eq_false hmay
        have HDD := Lib.hid hd
        have HBX := Lib.hid hfu
        have hlt2 := heap_lt hfu.box
        have hl3 : ¬ w.heap.size = wr.heap.size := by omega
        clear hfu hN hcb hcm hR hd
        unfold nilS at HD
        go_wp2_with fail
        refine HD.out.mono ?_
        rintro e w2 ⟨rfl, wv', cv', hT, hR2⟩
        rw [HDD.out]
        have hbr : Below wr.heap.size wr (wr.alloc (.cells #[.slice none 0 0, .slice none 0 0] 32)) := by go_grown
        have hb2 : Below wr.heap.size wr w2 := ⟨hT.os.trans hbr.os, hT.tape.trans hbr.tape, hT.output.trans hbr.output, Nat.le_trans hbr.size hT.size, fun q hq => (hT.keep q (Nat.lt_of_lt_of_le hq hbr.size) (by
          rintro (e | e | e)
          · omega
          · cases e
          · cases e)).trans (hbr.block q hq)⟩
        have HB2 := Lib.hid (HBX.out.bl.trans (hb2.mono HBX.out.bl.size))
        clear hT hR2 hbr hb2
        go_wp2_with fail
        refine (HK.out _).mono ?_
        rintro e w4 ⟨rfl, hb4⟩
        have hal : Below w2.heap.size w2 (w2.alloc (.cells #[.int .i64 (Rs.send ⟨[], []⟩ p).p.f, .int .i64 (Rs.send ⟨[], []⟩ p).p.t, .string (Rs.send ⟨[], []⟩ p).p.d] 23)) := by go_grown
        have hb3 := HB2.out.trans (hal.mono HB2.out.size)
        have HB4 := Lib.hid (hb3.trans (hb4.mono hb3.size))
        clear hb4 hal hb3
        go_wp2_with fail
        go_returns
        exact ⟨rfl, HB4.out⟩
end Go.Proofs.Ytdffghaledkfeaa
