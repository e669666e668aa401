/- ClockDoes: the walk. -/
import Derived.Test.YtcocdhlpmgfphaaSame
namespace Go.Proofs.Ytcocdhlpmgfphaa
open Go Go.RowKit
open S

/-- the clock, and the document's row -/
structure Do (W : World) (g mb c : Nat) (L : St) (v : Value) (w : World) : Prop where
  at_ : ∃ vc, At w W.heap.size g mb c vc L ∧ ∀ q, v.ownBlock = some q → q ≠ g ∧ q ≠ mb ∧ vc.ownBlock ≠ some q
  bl : Below W.heap.size W w
  row : Rf w W.heap.size v L
theorem Do.ck {W w : World} {g mb c : Nat} {L : St} {v : Value} (h : Do W g mb c L v w) : Ck W g mb c L w := by
  obtain ⟨⟨vc, hat, _⟩, hbl, _⟩ := h
  exact ⟨⟨vc, hat⟩, hbl⟩
theorem Do.below {W w w' : World} {g mb c : Nat} {L : St} {v : Value} (h : Do W g mb c L v w) (hb : Below w.heap.size w w') : Do W g mb c L v w' := by
  obtain ⟨⟨vc, hat, ho⟩, hbl, hr⟩ := h
  exact ⟨⟨vc, hat.below hb, ho⟩, hbl.trans (hb.mono hbl.size), (show Sl _ _ _ _ _ _ _ from hr).below hb⟩
theorem Do.mono {W w : World} {g mb c c' : Nat} {L : St} {v : Value} (h : Do W g mb c L v w) (hc : c ≤ c') (hc' : c' ≤ 1000000) : Do W g mb c' L v w := by
  obtain ⟨⟨vc, hat, ho⟩, hbl, hr⟩ := h
  exact ⟨⟨vc, hat.mono hc hc', ho⟩, hbl, hr⟩
/-- the row stays over the clock's turn -/
theorem row_stays {W w w' : World} {g mb : Nat} {L : St} {v vc vc' : Value} (ho : ∀ q, v.ownBlock = some q → q ≠ g ∧ q ≠ mb ∧ vc.ownBlock ≠ some q) (hr : Rf w W.heap.size v L) (ht : Turn g mb w w' vc vc') : Rf w' W.heap.size v L :=
  (show Sl _ _ _ _ _ _ _ from hr).of fun q hq => by
    obtain ⟨h1, h2, h3⟩ := ho q hq
    exact ht.keep q ((show Sl _ _ _ _ _ _ _ from hr).lt q hq) h1 h2 h3
theorem Do.next {W w w2 w3 : World} {g mb c c' : Nat} {L L' : St} {v' vc vc' : Value} (hat : At w W.heap.size g mb c vc L) (hbl : Below W.heap.size W w) (ht : Turn g mb w w2 vc vc') (hat' : At w2 W.heap.size g mb c' vc' L')
    (hr : Rf w3 w2.heap.size v' L') (hb : Below w2.heap.size w2 w3) : Do W g mb c' L' v' w3 := by
  have h2 := hbl.trans (hat.bl ht hbl.size)
  refine ⟨⟨vc', hat'.below hb, fun q hq => ?_⟩, h2.trans (hb.mono h2.size), (show Sl _ _ _ _ _ _ _ from hr).mono h2.size⟩
  have hq' := (show Sl _ _ _ _ _ _ _ from hr).ge q hq
  have h3 := hat'.glt
  have h4 := hat'.mlt
  refine ⟨by omega, by omega, fun e => ?_⟩
  have := hat'.row.lt q e
  omega
theorem drop_self {L : St} {s : K} (h : s ∉ keysOf L) : drop L s = L := by
  unfold drop
  rw [List.filter_eq_self]
  intro x hx
  simp only [ne_eq, decide_eq_true_eq]
  intro e
  exact h (mem_keys.2 ⟨x.2, by rw [← e]; exact hx⟩)
theorem klen (L : St) : (keysOf L).length = L.length := by simp [keysOf]

set_option maxRecDepth 100000 in
set_option maxHeartbeats 16000000 in
theorem does_walk (A : Option Addr) (L : List Stp) (cap : Nat) (hlen : L.length ≤ maxLen) (hok : ∀ x ∈ L, kok x.s) (other : ByteArray) (_ws : other.size ≤ maxLen) (w : World) (hs : StepsAt w A L) :
    Calls Try.prog 5 #[.slice A L.length cap, .string other] w fun e w' => e = .returned (.bool true) ∧ Below w.heap.size w w' := by
  have HK := Lib.hid (fun w' => known_any w')
  have HLg := Lib.hid (large_any A L cap w hlen hs)
  have HS := Lib.hid hs
  have HO := Lib.hid hok
  unfold maxLen at hlen
  clear hs hok
  go_enter Try.func5, Try.ntmps5
  go_wp2_with fail
  refine Calls.mono HLg.out ?_
  rintro e w' ⟨bb, rfl, rfl, h80⟩
  cases bb with
  | true =>
    go_wp2_with fail
    refine (HK.out _).mono ?_
    rintro e w' ⟨rfl, hb⟩
    go_wp2_with fail
    go_ret
    exact ⟨rfl, hb⟩
  | false =>
    have hL80 := h80 rfl
    clear h80
    by_cases hoth : (100 : Int) < (other.size : Int)
    · go_wp2_with fail
      refine (HK.out _).mono ?_
      rintro e w' ⟨rfl, hb⟩
      go_wp2_with fail
      go_ret
      exact ⟨rfl, hb⟩
    · go_wp2_with fail
      refine (new_any w).mono ?_
      rintro e w0 ⟨g, mb, rfl, hb0, hg0, hm0, hat0⟩
      have H0 := Lib.hid (And.intro hb0 hat0)
      clear hb0 hg0 hm0 hat0
      go_wp2_with fail
      go_loopw [6, 7] (fun v i wr => ∃ (j : Nat) (S : St) (v' : Value), j ≤ L.length ∧ i = .int .i64 j ∧ v = v' ∧ Do w g mb j S v' wr) (fun _ i _ => L.length - (intOf i).toNat)
      case atStart => exact ⟨0, [], _, by omega, rfl, rfl, ⟨⟨_, H0.out.2, by intro q hq; cases hq⟩, H0.out.1, Sl.nil _ _ _ _⟩⟩
      case round =>
        clear H0
        obtain ⟨j, S, v, hj, rfl, rfl, hdo⟩ := hrel
        obtain ⟨⟨vc, hat, ho⟩, hbl, hrow⟩ := hdo
        obtain ⟨Am, capm, rfl, _, _⟩ := (show Sl _ _ _ _ _ _ _ from hrow).any
        have hfew := hat.few
        rw [klen] at hfew
        have HX := Lib.hid (And.intro hat (And.intro ho (And.intro hbl hrow)))
        clear hat ho hbl hrow
        by_cases hlt : j < L.length
        · obtain ⟨b, off, rfl, hbw, c0, c1⟩ := HS.out.at_ hlt
          have d0 := (HX.out.2.2.1.cell (p := ⟨b, off + j * 2, none⟩) hbw).trans c0
          have d1 := (HX.out.2.2.1.cell (p := ⟨b, off + j * 2 + 1, none⟩) hbw).trans c1
          have hk := HO.out _ (List.getElem_mem hlt)
          clear c0 c1 hbw
          cases h1 : (L[j].kind == 1) with
          | true =>
            have HT := Lib.hid (touch_any HX.out.1 HX.out.2.2.1.size L[j].s hk (by omega))
            clear hk
            go_wp2_with fail
            refine Calls.mono HT.out ?_
            rintro e w2 ⟨vc', rfl, ht, hat2⟩
            have HR := Lib.hid (rtouch_any Am capm S L[j].s w2 (row_stays HX.out.2.1 HX.out.2.2.2 ht) (by omega) HX.out.1.nodup)
            have H2 := Lib.hid (And.intro ht hat2)
            clear ht hat2 d0 d1
            go_wp2_with fail
            refine Calls.mono HR.out ?_
            rintro e w3 ⟨v3, rfl, hr3, hb3⟩
            have hd := Do.next HX.out.1 HX.out.2.2.1 H2.out.1 H2.out.2 hr3 hb3
            obtain ⟨A3, cap3, rfl, _, _⟩ := (show Sl _ _ _ _ _ _ _ from hr3).any
            have HD := Lib.hid hd
            clear hr3 hb3 hd
            have HSm := Lib.hid (same_any _ _ HD.out.ck HD.out.row)
            go_wp2_with fail
            refine HSm.out.mono ?_
            rintro e w4 ⟨rfl, hb4⟩
            have HE := Lib.hid (HD.out.below hb4)
            clear hb4
            go_wp2_with fail
            go_roundw
            case rel => exact ⟨j + 1, _, _, by omega, by go_num, rfl, HE.out⟩
            case measure => simp [intOf]; omega
          | false =>
            cases h2 : (L[j].kind == 2) with
            | true =>
              by_cases hin : L[j].s ∈ keysOf S
              · have HT := Lib.hid (drop_yes HX.out.1 L[j].s hin)
                have HIN := Lib.hid hin
                clear hk hin
                go_wp2_with fail
                refine Calls.mono HT.out ?_
                rintro e w2 ⟨vc', rfl, ht, hat2⟩
                have hr2 := row_stays HX.out.2.1 HX.out.2.2.2 ht
                have HP := Lib.hid (place_any Am capm S L[j].s w2 hr2 (by omega))
                have HR := Lib.hid (rdrop_any Am capm S L[j].s w2 hr2 (by omega))
                have H2 := Lib.hid (And.intro ht hat2)
                clear ht hat2 d0 d1 hr2
                go_wp2_with fail
                refine Calls.mono HP.out ?_
                rintro e w' ⟨rfl, ⟨k, _, _, rfl⟩ | ⟨hno, _⟩⟩
                · go_wp2_with fail
                  refine Calls.mono HR.out ?_
                  rintro e w3 ⟨v3, rfl, hr3, hb3⟩
                  have hd := (Do.next HX.out.1 HX.out.2.2.1 H2.out.1 H2.out.2 hr3 hb3).mono (Nat.le_succ j) (by omega)
                  obtain ⟨A3, cap3, rfl, _, _⟩ := (show Sl _ _ _ _ _ _ _ from hr3).any
                  have HD := Lib.hid hd
                  clear hr3 hb3 hd
                  have HSm := Lib.hid (same_any _ _ HD.out.ck HD.out.row)
                  go_wp2_with fail
                  refine HSm.out.mono ?_
                  rintro e w4 ⟨rfl, hb4⟩
                  have HE := Lib.hid (HD.out.below hb4)
                  clear hb4
                  go_wp2_with fail
                  go_roundw
                  case rel => exact ⟨j + 1, _, _, by omega, by go_num, rfl, HE.out⟩
                  case measure => simp [intOf]; omega
                · exact absurd HIN.out hno
              · have HT := Lib.hid (drop_no HX.out.1 L[j].s hin)
                have HP := Lib.hid (place_any Am capm S L[j].s wr HX.out.2.2.2 (by omega))
                have hr := rdrop_any Am capm S L[j].s wr HX.out.2.2.2 (by omega)
                rw [drop_self hin] at hr
                have HR := Lib.hid hr
                have HIN := Lib.hid hin
                clear hk hin hr
                go_wp2_with fail
                refine Calls.mono HT.out ?_
                rintro e w' ⟨rfl, rfl⟩
                go_wp2_with fail
                refine Calls.mono HP.out ?_
                rintro e w' ⟨rfl, ⟨k, hk, _, _⟩ | ⟨_, rfl⟩⟩
                · exact absurd (List.mem_of_getElem? hk) HIN.out
                · go_wp2_with fail
                  refine Calls.mono HR.out ?_
                  rintro e w3 ⟨v3, rfl, hr3, hb3⟩
                  have hd := (Do.next HX.out.1 HX.out.2.2.1 (Turn.refl _ _ _ _) HX.out.1 hr3 hb3).mono (Nat.le_succ j) (by omega)
                  obtain ⟨A3, cap3, rfl, _, _⟩ := (show Sl _ _ _ _ _ _ _ from hr3).any
                  have HD := Lib.hid hd
                  clear hr3 hb3 hd d0 d1
                  have HSm := Lib.hid (same_any _ _ HD.out.ck HD.out.row)
                  go_wp2_with fail
                  refine HSm.out.mono ?_
                  rintro e w4 ⟨rfl, hb4⟩
                  have HE := Lib.hid (HD.out.below hb4)
                  clear hb4
                  go_wp2_with fail
                  go_roundw
                  case rel => exact ⟨j + 1, _, _, by omega, by go_num, rfl, HE.out⟩
                  case measure => simp [intOf]; omega
            | false =>
              by_cases hS : S = []
              · have HT := Lib.hid (victim_none HX.out.1 hS)
                have hS0 : S.length = 0 := by rw [hS]; rfl
                have hgt : ¬ (0 : Int) < ((S.length : Nat) : Int) := by omega
                have HD := Lib.hid (Do.mono (⟨⟨vc, HX.out.1, HX.out.2.1⟩, HX.out.2.2.1, HX.out.2.2.2⟩ : Do w g mb j S _ wr) (Nat.le_succ j) (by omega))
                clear hk hS hS0
                go_wp2_with fail
                refine Calls.mono HT.out ?_
                rintro e w' ⟨rfl, rfl⟩
                clear d0 d1
                have HSm := Lib.hid (same_any _ _ HD.out.ck HD.out.row)
                go_wp2_with fail
                refine HSm.out.mono ?_
                rintro e w4 ⟨rfl, hb4⟩
                have HE := Lib.hid (HD.out.below hb4)
                clear hb4
                go_wp2_with fail
                go_roundw
                case rel => exact ⟨j + 1, _, _, by omega, by go_num, rfl, HE.out⟩
                case measure => simp [intOf]; omega
              · have HT := Lib.hid (victim_some HX.out.1 HX.out.2.2.1.size hS)
                have hgt : (0 : Int) < ((S.length : Nat) : Int) := by
                  cases S with
                  | nil => exact absurd rfl hS
                  | cons x r => simp
                have hgt2 : decide (0 < S.length) = true := by
                  rw [decide_eq_true_eq]; omega
                have HSn := Lib.hid hS
                clear hk hS
                go_wp2_with fail
                refine Calls.mono HT.out ?_
                rintro e w2 ⟨k0, r0, vc', hv0, rfl, ht, hat2⟩
                have HR := Lib.hid (rvictim_any Am capm S w2 (row_stays HX.out.2.1 HX.out.2.2.2 ht) (by omega) HSn.out)
                have H2 := Lib.hid (And.intro ht (And.intro hat2 hv0))
                clear ht hat2 d0 d1 hv0
                go_wp2_with fail
                refine Calls.mono HR.out ?_
                rintro e w3 ⟨k1, r1, v3, hv1, rfl, hr3, hb3⟩
                have hd := (Do.next HX.out.1 HX.out.2.2.1 H2.out.1 H2.out.2.1 hr3 hb3).mono (Nat.le_succ j) (by omega)
                have hkk : k1 = k0 := by
                  have := H2.out.2.2
                  rw [hv1] at this
                  cases this
                  rfl
                subst hkk
                obtain ⟨A3, cap3, rfl, _, _⟩ := (show Sl _ _ _ _ _ _ _ from hr3).any
                have HD := Lib.hid hd
                clear hr3 hb3 hd hv1 hgt hgt2
                have HSm := Lib.hid (same_any _ _ HD.out.ck HD.out.row)
                go_wp2_with fail
                refine HSm.out.mono ?_
                rintro e w4 ⟨rfl, hb4⟩
                have HE := Lib.hid (HD.out.below hb4)
                clear hb4
                go_wp2_with fail
                go_roundw
                case rel => exact ⟨j + 1, _, _, by omega, by go_num, rfl, HE.out⟩
                case measure => simp [intOf]; omega
        · have HP := Lib.hid (place_any Am capm S other wr HX.out.2.2.2 (by omega))
          by_cases hin : other ∈ keysOf S
          · have HH := Lib.hid (has_any HX.out.1 other true (by simp [hin]))
            have HIN := Lib.hid hin
            clear hin
            go_wp2_with fail
            refine HH.out.mono ?_
            rintro e w' ⟨rfl, rfl⟩
            go_wp2_with fail
            refine Calls.mono HP.out ?_
            rintro e w' ⟨rfl, ⟨k, _, _, rfl⟩ | ⟨hno, _⟩⟩
            · go_wp2_with fail
              refine (HK.out _).mono ?_
              rintro e w' ⟨rfl, hb⟩
              go_wp2_with fail
              go_ret
              exact ⟨rfl, HX.out.2.2.1.trans (hb.mono HX.out.2.2.1.size)⟩
            · exact absurd HIN.out hno
          · have HH := Lib.hid (has_any HX.out.1 other false (by simp [hin]))
            have HIN := Lib.hid hin
            clear hin
            go_wp2_with fail
            refine HH.out.mono ?_
            rintro e w' ⟨rfl, rfl⟩
            go_wp2_with fail
            refine Calls.mono HP.out ?_
            rintro e w' ⟨rfl, ⟨k, hk, _, _⟩ | ⟨_, rfl⟩⟩
            · exact absurd (List.mem_of_getElem? hk) HIN.out
            · go_wp2_with fail
              refine (HK.out _).mono ?_
              rintro e w' ⟨rfl, hb⟩
              go_wp2_with fail
              go_ret
              exact ⟨rfl, HX.out.2.2.1.trans (hb.mono HX.out.2.2.1.size)⟩
end Go.Proofs.Ytcocdhlpmgfphaa
