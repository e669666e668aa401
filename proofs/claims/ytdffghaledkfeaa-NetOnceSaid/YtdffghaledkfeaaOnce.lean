/- NetOnce: the walk. -/
import Derived.Test.YtdffghaledkfeaaOnceObj
import Derived.Test.YtdffghaledkfeaaKnown
import Derived.Deep.RegionHeld3
import Derived.Deep.LoopGhost
namespace Go.Proofs.Ytdffghaledkfeaa
open Go Go.RowKit
set_option maxRecDepth 100000
set_option maxHeartbeats 16000000 in
theorem once_walk (A : Option Addr) (L : List Stp) (cap : Nat) (hlen : L.length ≤ maxLen) (hall : ∀ x ∈ L, x.ok) (node : Int) (hnode : kok node) (w : World) (hs : StepsAt w A L) :
    Calls Try.prog 4 #[.slice A L.length cap, .int .i64 node] w fun e w' => e = .returned (.bool true) ∧ Below w.heap.size w w' := by
  obtain ⟨i0, hi, hz0, hz1, hz2⟩ := info_parts info23
  have HL := Lib.hid (large_any A L cap w hlen hs hall)
  have HK := Lib.hid known_any
  have HNew := Lib.hid new_any
  have HS := Lib.hid hs
  have HAll := Lib.hid hall
  have HNode := Lib.hid hnode
  clear hs hall hnode
  go_enter Try.func4, Try.ntmps4
  go_wp2_with fail
  refine HL.out.mono ?_
  rintro e w1 ⟨b, rfl, rfl, hb80⟩
  cases b
  · have h80 := hb80 rfl
    clear hb80
    go_wp2_with fail
    refine (HNew.out _).mono ?_
    rintro e w2 ⟨g, mb, rfl, hb2, hN2⟩
    have HJ0 := Lib.hid (os_new hb2 hN2)
    clear hb2 hN2
    go_wp2_with fail
    go_loopw [6, 7] (fun sv i wr => ∃ k : Nat, k ≤ L.length ∧ i = .int .i64 k ∧ Rnd w wr g mb k sv) (fun _ i _ => L.length - (intOf i).toNat)
    case atStart => exact ⟨0, by omega, rfl, ⟨0, _, _, _, [], Nat.le_refl _, Nat.le_refl _, HJ0.out, once_new⟩⟩
    case round =>
      obtain ⟨k, hk, rfl, ⟨c, v, V, x, sent, hc, hsl, hos, hinv⟩⟩ := hrel
      have HJ := Lib.hid hos
      have HI := Lib.hid hinv
      clear hos hinv
      by_cases hlt : k < L.length
      · obtain ⟨b, off, rfl, hbw, hst⟩ := HS.out.at_ hlt
        have hso := HAll.out L[k] (by simp)
        generalize L[k] = s at *
        obtain ⟨c0, c1, c2, c3, c4⟩ := hst.below HJ.out.bl hbw
        have hal : Below wr.heap.size wr (wr.alloc (.cells #[.int .i64 s.k, .int .i64 s.i, .int .i64 s.p.f, .int .i64 s.p.t, .string s.p.d] 35)) := by go_grown
        have hbx : (wr.alloc (stpObj s)).heap[wr.heap.size]? = some (stpObj s) := heap_alloc_new wr _
        have hno : ¬ Own g mb v V wr.heap.size := fun e => by have := HJ.out.na.at_.own_lt e; omega
        have HJ1 := Lib.hid (HJ.out.below hal)
        by_cases h5 : s.k = 5
        · have HX := Lib.hid (And.intro hbx hno)
          clear hal hbx hno
          go_wp2_with fail
          go_roundw
          case rel => exact ⟨k + 1, by omega, by go_num, ⟨c, v, V, x, sent, by omega, by omega, (by have h := HJ1.out; rw [h5] at h; exact h), HI.out⟩⟩
          case measure => simp [intOf]; omega
        · by_cases h6 : s.k = 6
          · have HX := Lib.hid (And.intro hbx hno)
            clear hal hbx hno
            go_wp2_with fail
            go_roundw
            case rel => exact ⟨k + 1, by omega, by go_num, ⟨c, v, V, x, sent, by omega, by omega, (by have h := HJ1.out; rw [h6] at h; exact h), HI.out⟩⟩
            case measure => simp [intOf]; omega
          · have HW := Lib.hid (way_any HJ1.out.na.at_)
            have HX := Lib.hid (And.intro hbx hno)
            clear hal hbx hno
            have e5 : (s.k == 5) = false := by simp [h5]
            have e6 : (s.k == 6) = false := by simp [h6]
            go_wp2_with fail
            refine HW.out.mono ?_
            rintro e w3 ⟨A6, cap6, rfl, hr6, hb6⟩
            have hos2 := HJ1.out.below hb6
            have hbx3 := (hb6.block _ (heap_lt HX.out.1)).trans HX.out.1
            have hd := do_any hos2.na hos2.bl.size s hso.1 (by omega)
            have hex := once_step HI.out s h5 h6
            unfold Extra at hex
            have hthere : (x.step s).b = true → s.k = 4 → x.there s.i := fun hb h4 => by
              unfold Ns.step at hb
              rw [h4] at hb
              simp only [show ¬ (4 : Int) = 1 by decide, show ¬ (4 : Int) = 2 by decide, show ¬ (4 : Int) = 3 by decide, if_true, if_false] at hb
              unfold Ns.twice at hb
              by_cases ht : x.there s.i
              · exact ht
              · rw [if_neg ht] at hb; cases hb
            generalize hdd : Ns.step x s = d at *
            obtain ⟨dx, dp, dn, db⟩ := d
            dsimp only at hd hex hthere
            have hlow : ∀ q, Own g mb v V q → q < wr.heap.size := fun q hq => HJ.out.na.at_.own_lt hq
            obtain ⟨b0, b1, b2, b3, b4⟩ := cell_s hbx3
            have HD := Lib.hid hd
            have HEX := Lib.hid hex
            have HTH := Lib.hid hthere
            have HLOW := Lib.hid hlow
            have HBX3 := Lib.hid (And.intro hbx3 (And.intro hr6 hos2))
            clear hd hex hthere hlow hbx3 hr6 hos2 hb6
            go_wp2_with fail
            refine HD.out.mono ?_
            rintro e0 w4 ⟨rfl, c', v', V', hc', hT, hN⟩
            have hos4 := HBX3.out.2.2.turn hT hN
            have hbx4 := turn_keep HBX3.out.2.2 HBX3.out.1 HX.out.2 hT
            have hr4 : Rw w4 (wr.alloc (stpObj s)).heap.size (.slice A6 x.way.length cap6) x.way := HBX3.out.2.1.sl.of fun q hq => hT.keep q (HBX3.out.2.1.sl.lt q hq) fun e => by
              have h1 := HBX3.out.2.1.sl.ge q hq
              have h2 := HLOW.out q e
              rw [alloc_size] at h1
              omega
            have hal4 : Below w4.heap.size w4 (w4.alloc (pkObj dp)) := by unfold pkObj; go_grown
            have hos5 := hos4.below hal4
            have hbx5 := (hal4.block _ (heap_lt hbx4)).trans hbx4
            have hr5 := hr4.sl.below hal4
            obtain ⟨d0, d1, d2, d3, d4⟩ := cell_s hbx5
            have HOS := Lib.hid hos5
            have HBX := Lib.hid hbx5
            have HR := Lib.hid hr5
            clear hos4 hbx4 hr4 hal4 hos5 hbx5 hr5 hT hN b0 b1 b2 b3 b4 c0 c1 c2 c3 c4
            unfold pkObj at HOS HBX HR d0 d1 d2 d3 d4
            obtain ⟨As, caps, rfl, _, _⟩ := HOS.out.snt.sl.any
            cases db with
            | false =>
              have hf := HEX.out
              simp at hf
              have HF := Lib.hid hf
              clear hf
              go_wp2_with fail
              go_roundw
              case rel => exact ⟨k + 1, by omega, by go_num, ⟨c', v', V', dx, sent, by omega, by omega, HOS.out, HF.out⟩⟩
              case measure => simp [intOf]; omega
            | true =>
              by_cases h1 : s.k = 1
              · have e1 : (s.k == 1) = true := by simp [h1]
                have e4 : (s.k == 4) = false := by simp [h1]
                have hf := HEX.out
                simp only [h1, and_self, if_true] at hf
                have HF := Lib.hid hf
                clear hf
                go_wp2_with (at_builtin; refine wpList_append_sl _ rfl (.tmp 54) (.tmp 57) 30 rfl 23 i0 (.agg #[.int .i64 0, .int .i64 0, .string ⟨#[]⟩]) 3 32 Try.underlying30 hi hz0 hz1 hz2 rfl (by decide) rfl (HOS.out.snt.sl.below (w' := (w4.alloc (.cells #[.int .i64 dp.f, .int .i64 dp.t, .string dp.d] 23)).alloc (.cells #[.int .i64 s.p.f, .int .i64 s.p.t, .string s.p.d] 23)) (by go_grown)) (some ⟨w4.heap.size + 1, 0, none⟩) 1 1 [.int .i64 s.p.f, .int .i64 s.p.t, .string s.p.d] rfl (by simp) rfl (row_news3 (heap_new_at _ _ (by first | rfl | (show (World.alloc _ _).heap.size = _; rw [alloc_size]) | simp))) (by intro u hu; simp at hu; rcases hu with rfl | rfl | rfl <;> rfl) (by unfold maxLen; omega) (by omega) (by exact Nat.le_trans HOS.out.bl.size (Nat.le_of_lt (heap_lt (heap_alloc_new _ _)))) ?_)
                intro sv6 w6 hsl6 hgrow6 hown6
                obtain ⟨b6', off6', cap6', rfl, _, _⟩ := hsl6.shape (by omega)
                have h66 := HOS.out.app1 hsl6 hgrow6 (fun q hq => (hown6 q hq).imp id fun h => by rw [alloc_size]; exact h)
                obtain ⟨f0, f1, f2, f3, f4⟩ := cell_s (h66.2 _ _ _ HBX.out (by decide))
                have HOS6 := Lib.hid h66.1
                clear h66 hsl6 hgrow6 hown6 d0 d1 d2 d3 d4
                go_wp2_with fail
                go_roundw
                case rel => exact ⟨k + 1, by omega, by go_num, ⟨c', v', V', dx, sent ++ [s.p], by omega, by simp; omega, (by first | exact HOS6.out | (have h := HOS6.out; simp only [List.length_append, List.length_singleton]; exact h)), HF.out⟩⟩
                case measure => simp [intOf]; omega
              · by_cases h4 : s.k = 4
                · have e1 : (s.k == 1) = false := by simp [h1]
                  have e4 : (s.k == 4) = true := by simp [h4]
                  obtain ⟨n, hn, hnl, hat, _⟩ := there_nat (HTH.out rfl h4)
                  obtain ⟨b6, off6, cp6, he6, _, _⟩ := HR.out.shape (by omega)
                  cases he6
                  obtain ⟨r0, r1, r2⟩ := (show Rw _ _ _ x.way from HR.out).pk hnl
                  have j0 : decide ((0 : Int) ≤ (n : Int)) = true := decide_eq_true (by omega)
                  have j1 : decide ((n : Int) < (x.way.length : Int)) = true := decide_eq_true (by omega)
                  have hf := HEX.out
                  simp only [h4, show ¬ (4 : Int) = 1 by decide, and_false, and_self, if_true, if_false] at hf
                  rw [hat] at hf
                  rw [hn] at d1
                  generalize x.way[n] = u at *
                  have HF := Lib.hid hf
                  have HN := Lib.hid hn
                  clear hf hat hn HTH
                  go_wp2_with (at_builtin; refine wpList_append_sl _ rfl (.tmp 77) (.tmp 83) 30 rfl 23 i0 (.agg #[.int .i64 0, .int .i64 0, .string ⟨#[]⟩]) 3 32 Try.underlying30 hi hz0 hz1 hz2 rfl (by decide) rfl (HOS.out.snt.sl.below (w' := (w4.alloc (.cells #[.int .i64 dp.f, .int .i64 dp.t, .string dp.d] 23)).alloc (.cells #[.int .i64 u.f, .int .i64 u.t, .string u.d] 23)) (by go_grown)) (some ⟨w4.heap.size + 1, 0, none⟩) 1 1 [.int .i64 u.f, .int .i64 u.t, .string u.d] rfl (by simp) rfl (row_news3 (heap_new_at _ _ (by first | rfl | (show (World.alloc _ _).heap.size = _; rw [alloc_size]) | simp))) (by intro u hu; simp at hu; rcases hu with rfl | rfl | rfl <;> rfl) (by unfold maxLen; omega) (by omega) (by exact Nat.le_trans HOS.out.bl.size (Nat.le_of_lt (heap_lt (heap_alloc_new _ _)))) ?_)
                  intro sv6 w6 hsl6 hgrow6 hown6
                  obtain ⟨b6', off6', cap6', rfl, _, _⟩ := hsl6.shape (by omega)
                  have h66 := HOS.out.app1 hsl6 hgrow6 (fun q hq => (hown6 q hq).imp id fun h => by rw [alloc_size]; exact h)
                  obtain ⟨f0, f1, f2, f3, f4⟩ := cell_s (h66.2 _ _ _ HBX.out (by decide))
                  have HOS6 := Lib.hid h66.1
                  clear h66 hsl6 hgrow6 hown6 d0 d1 d2 d3 d4
                  go_wp2_with fail
                  go_roundw
                  case rel => exact ⟨k + 1, by omega, by go_num, ⟨c', v', V', dx, sent ++ [u], by omega, by simp; omega, (by first | exact HOS6.out | (have h := HOS6.out; simp only [List.length_append, List.length_singleton]; exact h)), HF.out⟩⟩
                  case measure => simp [intOf]; omega
                · have e1 : (s.k == 1) = false := by simp [h1]
                  have e4 : (s.k == 4) = false := by simp [h4]
                  have hf := HEX.out
                  simp only [h1, h4, and_false, if_false, List.append_nil] at hf
                  have HF := Lib.hid hf
                  clear hf
                  go_wp2_with fail
                  go_roundw
                  case rel => exact ⟨k + 1, by omega, by go_num, ⟨c', v', V', dx, sent, by omega, by omega, HOS.out, HF.out⟩⟩
                  case measure => simp [intOf]; omega
      · have HS0 := Lib.hid (And.intro HJ.out HI.out)
        go_wp2_with fail
        go_loopg [6] sent.length (fun q sv wr => ∃ c v V x se, c + se.length ≤ 200 ∧ se.length ≤ q ∧ OS w wr g mb c v V x sv se ∧ OInv x se)
        case atStart => exact ⟨c, v, V, x, sent, by omega, Nat.le_refl _, HS0.out.1, HS0.out.2⟩
        case round =>
          obtain ⟨c2, v2, V2, y, se, hcs, hq, hos, hinv⟩ := hrel
          have hnx := next_na hos.na HNode.out (by omega)
          cases hr : y.came node with
          | nil =>
            have hn0 : y.next node = y.no := by unfold Ns.next; rw [hr]
            rw [hn0] at hnx
            have HNX := Lib.hid hnx
            have HOS := Lib.hid hos
            clear hnx hos hn0 hr
            go_wp2_with fail
            refine HNX.out.mono ?_
            rintro e w5 ⟨rfl, c', v', V', hc', hT, hN⟩
            have HB5 := Lib.hid (HOS.out.turn hT hN).bl
            clear hT hN
            unfold Ns.no zpk
            go_wp2_with fail
            refine (HK.out _).mono ?_
            rintro e0 w7 ⟨rfl, hb⟩
            have HB7 := Lib.hid (HB5.out.trans ((show Below w5.heap.size w5 (w5.alloc (.cells #[.int .i64 0, .int .i64 0, .string ⟨#[]⟩] 23)) by go_grown).mono HB5.out.size |>.trans (hb.mono (Nat.le_trans HB5.out.size (show Below w5.heap.size w5 (w5.alloc (.cells #[.int .i64 0, .int .i64 0, .string ⟨#[]⟩] 23)) by go_grown).size))))
            clear hb
            go_wp2_with fail
            go_returns
            exact ⟨rfl, HB7.out⟩
          | cons p r =>
            have hn0 : y.next node = ⟨⟨y.way, upd y.came node r⟩, p, 0, true⟩ := by unfold Ns.next; rw [hr]
            rw [hn0] at hnx
            obtain ⟨hpt, hpm, hpo⟩ := once_next hinv hr
            have HNX := Lib.hid hnx
            have HOS := Lib.hid hos
            have HPM := Lib.hid hpm
            have HPO := Lib.hid hpo
            have HPT := Lib.hid hpt
            clear hnx hos hn0 hr hpm hpo hinv hpt
            go_wp2_with fail
            refine HNX.out.mono ?_
            rintro e w5 ⟨rfl, c', v', V', hc', hT, hN⟩
            dsimp only at hN
            have hos5 := HOS.out.turn hT hN
            have hal5 : Below w5.heap.size w5 (w5.alloc (pkObj p)) := by unfold pkObj; go_grown
            have hos6 := hos5.below hal5
            have hbx6 : (w5.alloc (pkObj p)).heap[w5.heap.size]? = some (pkObj p) := heap_alloc_new w5 _
            have HOS6 := Lib.hid hos6
            have HBX6 := Lib.hid hbx6
            clear hT hN hos5 hal5 hos6 hbx6
            unfold pkObj at HOS6 HBX6
            generalize hw6 : w5.alloc (.cells #[.int .i64 p.f, .int .i64 p.t, .string p.d] 23) = w6 at *
            have hse : 0 < se.length := List.length_pos_of_mem HPM.out
            obtain ⟨bs, offs, caps, rfl, hcap, hcm⟩ := HOS6.out.snt.sl.shape hse
            go_wp2_with fail
            go_loopw [15, 16] (fun at_ i wq => ∃ j : Nat, j ≤ se.length ∧ i = .int .i64 j ∧ Below w6.heap.size w6 wq ∧ ((at_ = .int .i64 (-1) ∧ ∀ t (ht : t < se.length), t < j → se[t] ≠ p) ∨ ∃ a : Nat, ∃ ha : a < se.length, at_ = .int .i64 a ∧ se[a] = p)) (fun _ i _ => se.length - (intOf i).toNat)
            case atStart => exact ⟨0, by omega, rfl, Below.refl _ _, .inl ⟨rfl, fun t ht h0 => absurd h0 (Nat.not_lt_zero _)⟩⟩
            case round =>
              obtain ⟨j, hj, rfl, hb, hor⟩ := hrel
              by_cases hlt2 : j < se.length
              · obtain ⟨c0, c1, c2⟩ := (show Rw wr w.heap.size _ se from HOS6.out.snt.sl.below hb).pk hlt2
                obtain ⟨e0, e1, e2⟩ := cell_of_pk ((hb.block _ (heap_lt HBX6.out)).trans HBX6.out)
                have HB := Lib.hid (And.intro hb hor)
                clear hb hor
                by_cases he : se[j] = p
                · rw [he] at c0 c1 c2
                  have HE := Lib.hid he
                  clear he
                  go_wp2_with fail
                  go_region
                  go_wp2_with fail
                  go_roundw
                  case rel => exact ⟨j + 1, by omega, by go_num, HB.out.1.drew, .inr ⟨j, hlt2, rfl, HE.out⟩⟩
                  case measure => simp [intOf]; omega
                · have HE := Lib.hid he
                  rcases pk_ne he with h1 | ⟨h1, h2⟩ | ⟨h1, h2, h3⟩
                  · have g1 : (se[j].f == p.f) = false := by simp [h1]
                    clear he h1
                    go_wp2_with fail
                    go_region
                    go_wp2_with fail
                    go_roundw
                    case rel => exact ⟨j + 1, by omega, by go_num, HB.out.1.drew, HB.out.2.imp (fun h => ⟨h.1, fun t ht h1 => by
                      rcases Nat.lt_or_ge t j with h2 | h2
                      · exact h.2 t ht h2
                      · obtain rfl : t = j := by omega
                        exact HE.out⟩) id⟩
                    case measure => simp [intOf]; omega
                  · have g2 : (se[j].t == p.t) = false := by simp [h2]
                    rw [h1] at c0
                    clear he h1 h2
                    go_wp2_with fail
                    go_region
                    go_wp2_with fail
                    go_roundw
                    case rel => exact ⟨j + 1, by omega, by go_num, HB.out.1.drew, HB.out.2.imp (fun h => ⟨h.1, fun t ht h1 => by
                      rcases Nat.lt_or_ge t j with h2 | h2
                      · exact h.2 t ht h2
                      · obtain rfl : t = j := by omega
                        exact HE.out⟩) id⟩
                    case measure => simp [intOf]; omega
                  · have g3 := bytes_no h3
                    rw [h1] at c0
                    rw [h2] at c1
                    clear he h1 h2 h3
                    go_wp2_with fail
                    go_region
                    go_wp2_with fail
                    go_roundw
                    case rel => exact ⟨j + 1, by omega, by go_num, HB.out.1.drew, HB.out.2.imp (fun h => ⟨h.1, fun t ht h1 => by
                      rcases Nat.lt_or_ge t j with h2 | h2
                      · exact h.2 t ht h2
                      · obtain rfl : t = j := by omega
                        exact HE.out⟩) id⟩
                    case measure => simp [intOf]; omega
              · have hjl : j = se.length := by omega
                rcases hor with ⟨rfl, hall⟩ | ⟨a, ha, rfl, hap⟩
                · exfalso
                  obtain ⟨t, ht, hte⟩ := List.mem_iff_getElem.1 HPM.out
                  exact hall t ht (by omega) hte
                · have hinv2 := HPO.out a ha hap
                  have hos8 := HOS6.out.below hb.drew
                  obtain ⟨e0, e1, e2⟩ := cell_of_pk ((hb.block _ (heap_lt HBX6.out)).trans HBX6.out)
                  rw [HPT.out] at e1
                  obtain ⟨A, hA, hA2⟩ : ∃ A : Addr, (if caps = a + 1 then some (⟨bs, offs, none⟩ : Addr) else some ⟨bs, offs + (a + 1) * 3, none⟩) = some A ∧ ∀ W, Rw W w.heap.size (.slice (some ⟨bs, offs, none⟩) se.length caps) se → ∀ t u, (cells3 (se.drop (a + 1)))[t]? = some u → W.cell? (A.add t) = some u := by
                    by_cases hc : caps = a + 1
                    · refine ⟨⟨bs, offs, none⟩, by simp [hc], fun W hW t u hu => ?_⟩
                      have h0 : se.drop (a + 1) = [] := List.drop_eq_nil_of_le (by omega)
                      rw [h0] at hu
                      simp [cells3] at hu
                    · refine ⟨⟨bs, offs + (a + 1) * 3, none⟩, by simp [hc], fun W hW t u hu => ?_⟩
                      rw [addr_add]
                      rw [← cells3_drop, List.getElem?_drop] at hu
                      rw [Nat.add_assoc]
                      exact hW.sl.cell hu
                  have hhd : Sl wr.drew w.heap.size 23 3 (.slice (some ⟨bs, offs, none⟩) a a) a (cells3 (se.take a)) := by
                    rw [← cells3_take]
                    exact hos8.snt.sl.head (by omega)
                  have hl2 : (cells3 (se.drop (a + 1))).length = (se.length - (a + 1)) * 3 := by rw [cells3_len, List.length_drop]
                  have hac : a ≤ caps := by omega
                  have hkc1 : a + 1 ≤ caps := by omega
                  have hkl : (a : Int) + 1 ≤ (se.length : Int) := by omega
                  have hk0 : (0 : Int) ≤ (a : Int) + 1 := by omega
                  have hwr : IntKind.i64.wrap ((a : Int) + 1) = (a : Int) + 1 := by rw [IntKind.wrap_i64]; omega
                  have hk2 : ((a : Int) + 1).toNat = a + 1 := by omega
                  have hkci : (a : Int) ≤ (caps : Int) := by omega
                  have n1 : ¬ (a : Int) < 0 := by omega
                  have n2 : (node != node) = false := by simp
                  have HINV := Lib.hid hinv2
                  have HOS8 := Lib.hid hos8
                  have HHD := Lib.hid hhd
                  have HA2 := Lib.hid hA2
                  have HL2 := Lib.hid hl2
                  have HX := Lib.hid (And.intro hap (And.intro hcs hq))
                  clear hinv2 hos8 hhd hA2 hl2 hap hb hjl
                  go_wp2_with fail
                  go_region_law (refine step_append_sl rfl (.tmp 118) (.tmp 122) 30 rfl 23 i0 (.agg #[.int .i64 0, .int .i64 0, .string ⟨#[]⟩]) 3 32 Try.underlying30 hi hz0 hz1 hz2 rfl (by decide) (v := .slice (some ⟨bs, offs, none⟩) a a) (by simp [Act.eval, Act.put]) HHD.out (some A) (se.length - (a + 1)) (caps - (a + 1)) (cells3 (se.drop (a + 1))) (by simp [Act.eval, Act.put]) (by simp) HL2.out (by intro ad had; cases had; exact HA2.out _ HOS8.out.snt) (cells3_one _) (by unfold maxLen; omega) (by omega) (by exact HOS8.out.bl.size) ?_; intro v9 w9 hsl9 hgrow9 hown9)
                  all_goals
                    have hos9 := HOS8.out.app (Below.refl _ _) (rw_out ha hsl9) hgrow9 hown9
                    have HOS9 := Lib.hid hos9
                    clear hos9 hsl9 hgrow9 hown9
                    obtain ⟨A9, cap9, rfl, _, _⟩ := HOS9.out.snt.sl.any
                    go_wp2_with fail
                    simp only [List.getElem_toArray, List.getElem_cons_succ, List.getElem_cons_zero, Act.put]
                    go_frame
                    go_roundg (gk - 1)
                    case measure => have := HX.out.2.2; omega
                    case rel => exact ⟨c', v', V', _, out se a, by have := HX.out.2.1; have := out_nil_len ha; omega, by have := HX.out.2.2; have := out_nil_len ha; omega, HOS9.out, HINV.out⟩
  · go_wp2_with fail
    refine (HK.out _).mono ?_
    rintro e0 w3 ⟨rfl, hb⟩
    have HB3 := Lib.hid hb
    clear hb
    go_wp2_with fail
    go_returns
    exact ⟨rfl, HB3.out⟩
end Go.Proofs.Ytdffghaledkfeaa
