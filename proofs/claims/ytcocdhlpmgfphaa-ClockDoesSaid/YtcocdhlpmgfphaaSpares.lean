/- clock.Clock[string].Keys; ClockSpares: the walk. -/
import Derived.Test.YtcocdhlpmgfphaaKnown
import Derived.Test.YtcocdhlpmgfphaaOpen
import Derived.Lib.SliceRun
namespace Go.Proofs.Ytcocdhlpmgfphaa
open Go Go.RowKit
open S

/-! ### Keys -/
theorem clone_nil (w : World) : Calls Try.prog 30 #[.slice none 0 0] w fun e w' => e = .returned (.slice none 0 0) ∧ w = w' := by
  have heq := Lib.run_eql_slice_nil (P := Try.prog) w 22 9 none 0 0 0 0 Try.underlying22
  go_enter Try.func30, Try.ntmps30
  go_wp2
  go_ret
  exact ⟨rfl, rfl⟩
def CloneV (l : List K) (w : World) (e : Ending) (w' : World) : Prop := ∃ v', e = .returned v' ∧ Sl w' w.heap.size 9 1 v' l.length (encs l) ∧ Below w.heap.size w w'
theorem clone_some {B : Nat} (b off cap : Nat) (l : List K) (w : World) (h : Sl w B 9 1 (.slice (some ⟨b, off, none⟩) l.length cap) l.length (encs l)) (hfew : l.length ≤ 1000000) :
    Calls Try.prog 30 #[.slice (some ⟨b, off, none⟩) l.length cap] w (CloneV l w) := by
  obtain ⟨i0, hi, hz0, hz1, hz2⟩ := info_parts info9
  have hb2 : Below w.heap.size w (w.alloc (.cells #[] 9)) := by go_grown
  have hsrc := h.below hb2
  have hs : ∀ j u, (encs l)[j]? = some u → (w.alloc (.cells #[] 9)).cell? ((⟨b, off, none⟩ : Addr).add j) = some u := by
    intro j u hu
    rw [addr_add]
    exact hsrc.cell hu
  have HS := Lib.hid hs
  have HD := Lib.hid (Sl.made w (B := w.heap.size) 9 1 0 #[] (Nat.le_refl _) (Nat.zero_le _) (by simp))
  have heq := Lib.run_eql_slice_nil (P := Try.prog) w 22 9 (some ⟨b, off, none⟩) l.length cap 0 0 Try.underlying22
  clear h hb2 hsrc hs
  go_enter Try.func30, Try.ntmps30
  go_wp2_with (at_builtin; refine wpList_append_sl _ rfl (.tmp 5) (.tmp 6) 22 rfl 9 i0 (.string ⟨#[]⟩) 1 16 Try.underlying22 hi hz0 hz1 hz2 rfl (by decide) rfl HD.out (some ⟨b, off, none⟩) l.length cap (encs l) rfl (by simp) (by simp [encs]) (by intro ad had; cases had; exact HS.out) (encs_one l) (by unfold maxLen; omega) (by omega) (by simp) ?_)
  intro v' w1 hsl hgrow hown
  have HX := Lib.hid (And.intro hsl hgrow)
  clear hsl hgrow hown
  go_wp2_with fail
  go_ret
  refine ⟨v', rfl, by simpa using HX.out.1, ?_⟩
  exact Below.grown (a := w) (w := w.alloc (.cells #[] 9)) (by go_grown) HX.out.2 (by simp) (fun q hq => by cases hq; exact Nat.le_refl _)
theorem keys_any {w : World} {B g mb c : Nat} {v : Value} {L : St} (h : At w B g mb c v L) :
    Calls Try.prog 12 #[.pointer (some ⟨g, 0, none⟩)] w (CloneV (keysOf L) w) := by
  have c0 := h.c0'
  have HM := Lib.hid (made_any g mb w h.c1')
  have hfew := h.few
  have hcc := h.c0
  have hC : Calls Try.prog 30 #[v] w (CloneV (keysOf L) w) := by
    rcases h.row.2 with ⟨rfl, h0⟩ | ⟨b, off, cap, cur, rfl, _⟩
    · refine (clone_nil w).mono ?_
      rintro e w' ⟨rfl, rfl⟩
      refine ⟨_, rfl, ?_, Below.refl _ _⟩
      have := List.length_eq_zero_iff.1 h0
      rw [this]
      exact Sl.nil _ _ _ _
    · exact clone_some b off cap (keysOf L) w h.row (by omega)
  have HC := Lib.hid hC
  clear h hC
  go_enter Try.func12, Try.ntmps12
  go_wp2_with fail
  refine HM.out.mono ?_
  rintro e w' ⟨rfl, rfl⟩
  go_wp2_with fail
  refine Calls.mono HC.out ?_
  rintro e w' ⟨v', rfl, hv⟩
  have HV := Lib.hid hv
  clear hv
  go_wp2_with fail
  go_ret
  exact ⟨v', rfl, HV.out⟩
theorem keys_ck {W w : World} {g mb c : Nat} {L : St} (h : Ck W g mb c L w) : Calls Try.prog 12 #[.pointer (some ⟨g, 0, none⟩)] w (CloneV (keysOf L) w) := by
  obtain ⟨⟨v, hat⟩, hbl⟩ := h
  exact keys_any hat

/-! ### strings that came in -/
def oneStr (x : ByteArray) : List Value := [.string x]
theorem strs_of_rows (R : List (List Value)) (h : ∀ (i : Nat) (hi : i < R.length), Typed [1] R[i]) : ∃ L : List ByteArray, R = L.map oneStr ∧ ∀ x ∈ L, kok x := by
  induction R with
  | nil => exact ⟨[], rfl, by simp⟩
  | cons r R ih =>
    obtain ⟨L, rfl, hL⟩ := ih fun i hi => h (i + 1) (by simpa using hi)
    have h0 := h 0 (by simp)
    simp only [List.getElem_cons_zero] at h0
    match r, h0 with
    | [v0], ⟨h0, _⟩ =>
      cases v0 <;> simp [leafOk] at h0
      exact ⟨_ :: L, rfl, by simpa [kok] using ⟨h0, hL⟩⟩
def StrsAt (w : World) (A : Option Addr) (L : List ByteArray) : Prop := RowsAt w A 1 (L.map oneStr)
theorem StrsAt.at_ {w : World} {A : Option Addr} {L : List ByteArray} (h : StrsAt w A L) {k : Nat} (hk : k < L.length) :
    ∃ b off, A = some ⟨b, off, none⟩ ∧ b < w.heap.size ∧ w.cell? ⟨b, off + k, none⟩ = some (.string L[k]) := by
  obtain ⟨b, off, rfl, hlt, hc⟩ := h (by simpa using by omega)
  have hc := hc k (by simpa using hk)
  simp only [List.getElem_map] at hc
  exact ⟨b, off, rfl, hlt, by simpa using hc 0 _ rfl⟩

/-! ### the plain law -/
theorem spin_head (k : K) : ∀ (A : St) (B : St) (n : Nat), (∀ x ∈ A, x.2 = true) → A.length ≤ n → ∃ r, spin n (A ++ (k, false) :: B) = (k, false) :: r
  | [], B, n, _, _ => ⟨B, by cases n <;> rfl⟩
  | (q, m) :: A, B, 0, _, h => absurd h (by simp)
  | (q, m) :: A, B, n + 1, hm, h => by
    obtain rfl : m = true := hm (q, m) (by simp)
    obtain ⟨r, hr⟩ := spin_head k A (B ++ [(q, false)]) n (fun x hx => hm x (by simp [hx])) (by simpa using h)
    refine ⟨r, ?_⟩
    rw [← hr]
    show spin n ((A ++ (k, false) :: B) ++ [(q, false)]) = _
    rw [List.append_assoc, List.cons_append]
theorem first_bare : ∀ (L : St), (∃ x ∈ L, x.2 = false) → ∃ A k B, L = A ++ (k, false) :: B ∧ ∀ x ∈ A, x.2 = true
  | [], h => by obtain ⟨x, hx, _⟩ := h; cases hx
  | (q, m) :: L, h => by
    cases m with
    | false => exact ⟨[], q, L, rfl, by simp⟩
    | true =>
      obtain ⟨A, k, B, rfl, hA⟩ := first_bare L (by
        obtain ⟨x, hx, hm⟩ := h
        rcases List.mem_cons.1 hx with rfl | h1
        · cases hm
        · exact ⟨x, h1, hm⟩)
      exact ⟨(q, true) :: A, k, B, rfl, by intro x hx; rcases List.mem_cons.1 hx with rfl | h1; rfl; exact hA x h1⟩
theorem vic_bare {L r : St} {k : K} (h : ∃ x ∈ L, x.2 = false) (hv : vic L = (k, false) :: r) : (k, false) ∈ L := by
  obtain ⟨A, k0, B, rfl, hA⟩ := first_bare L h
  have hm : A.length ≤ marks (A ++ (k0, false) :: B) := by
    unfold marks
    rw [List.countP_append]
    have : A.countP (·.2) = A.length := List.countP_eq_length.2 (fun x hx => hA x hx)
    omega
  obtain ⟨r', hr⟩ := spin_head k0 A B _ hA hm
  unfold vic at hv
  rw [hr] at hv
  cases hv
  simp
theorem both_marks {L : St} {k : K} (hn : (keysOf L).Nodup) (h1 : (k, true) ∈ L) (h2 : (k, false) ∈ L) : False := by
  induction L with
  | nil => cases h1
  | cons x L ih =>
    have hk : keysOf (x :: L) = x.1 :: keysOf L := rfl
    rw [hk, List.nodup_cons] at hn
    rcases List.mem_cons.1 h1 with e1 | e1
    · rcases List.mem_cons.1 h2 with e2 | e2
      · rw [← e1] at e2; cases e2
      · exact hn.1 (mem_keys.2 ⟨false, by rw [← e1]; exact e2⟩)
    · rcases List.mem_cons.1 h2 with e2 | e2
      · exact hn.1 (mem_keys.2 ⟨true, by rw [← e2]; exact e1⟩)
      · exact ih hn.2 e1 e2

theorem spares_big (A : Option Addr) (m cap : Nat) (A' : Option Addr) (m' cap' : Nat) (w : World) (h : (40 : Int) < m ∨ (40 : Int) < m') :
    Calls Try.prog 3 #[.slice A m cap, .slice A' m' cap'] w fun e w' => e = .returned (.bool true) ∧ Below w.heap.size w w' := by
  have HK := Lib.hid (known_any w)
  by_cases h1 : (40 : Int) < m
  · clear h
    go_enter Try.func3, Try.ntmps3
    go_wp2_with fail
    refine HK.out.mono ?_
    rintro e w' ⟨rfl, hb⟩
    go_wp2_with fail
    go_ret
    exact ⟨rfl, hb⟩
  · have h2 : (40 : Int) < m' := h.resolve_left h1
    clear h
    go_enter Try.func3, Try.ntmps3
    go_wp2_with fail
    refine HK.out.mono ?_
    rintro e w' ⟨rfl, hb⟩
    go_wp2_with fail
    go_ret
    exact ⟨rfl, hb⟩

set_option maxRecDepth 100000 in
set_option maxHeartbeats 8000000 in
theorem spares_main (A : Option Addr) (L : List K) (cap : Nat) (A' : Option Addr) (T : List K) (cap' : Nat) (w : World) (hs : StrsAt w A L) (hok : ∀ x ∈ L, kok x) (hs' : StrsAt w A' T) (hok' : ∀ x ∈ T, kok x)
    (hm : ¬ (40 : Int) < L.length) (hm' : ¬ (40 : Int) < T.length) :
    Calls Try.prog 3 #[.slice A L.length cap, .slice A' T.length cap'] w fun e w' => e = .returned (.bool true) ∧ Below w.heap.size w w' := by
  have HK := Lib.hid (fun w' => known_any w')
  have HS := Lib.hid (And.intro hs hs')
  have HO := Lib.hid (And.intro hok hok')
  clear hs hok hs' hok'
  go_enter Try.func3, Try.ntmps3
  go_wp2_with fail
  refine (new_ck w).mono ?_
  rintro e w0 ⟨g, mb, rfl, h0⟩
  have H0 := Lib.hid h0
  clear h0
  go_wp2_with fail
  go_loopw [6] (fun i wr => ∃ (k : Nat) (S : St), k ≤ L.length ∧ i = .int .i64 k ∧ Ck w g mb k S wr ∧ ∀ x, x ∈ keysOf S ↔ x ∈ L.take k) (fun i _ => L.length - (intOf i).toNat)
  case atStart => exact ⟨0, [], by omega, rfl, H0.out, by simp [keysOf]⟩
  case round =>
    clear H0
    obtain ⟨k, S, hk, rfl, hck, hiff⟩ := hrel
    have HC := Lib.hid (And.intro hck hiff)
    clear hck hiff
    by_cases hlt : k < L.length
    · obtain ⟨b, off, rfl, hbw, c0⟩ := HS.out.1.at_ hlt
      have d0 := (HC.out.1.bl.cell (p := ⟨b, off + k, none⟩) hbw).trans c0
      clear c0 hbw
      by_cases h100 : (100 : Int) < (L[k].size : Int)
      · go_wp2_with fail
        refine (HK.out _).mono ?_
        rintro e w' ⟨rfl, hb⟩
        go_wp2_with fail
        go_ret
        exact ⟨rfl, HC.out.1.bl.trans (hb.mono HC.out.1.bl.size)⟩
      · have HT := Lib.hid (touch_ck HC.out.1 L[k] (HO.out.1 _ (List.getElem_mem hlt)) (by omega))
        go_wp2_with fail
        refine HT.out.mono ?_
        rintro e w2 ⟨rfl, hck⟩
        have HJ := Lib.hid hck
        clear hck d0
        go_wp2_with fail
        go_roundw
        case rel =>
          refine ⟨k + 1, touch S L[k], by omega, by go_num, HJ.out, fun x => ?_⟩
          rw [List.take_succ_eq_append_getElem hlt, List.mem_append, List.mem_singleton, ← HC.out.2 x]
          by_cases hin : L[k] ∈ keysOf S
          · rw [touch_keys_in hin]
            exact ⟨.inl, fun h => h.elim id (fun e => e ▸ hin)⟩
          · rw [touch_keys_out hin, List.mem_append, List.mem_singleton]
        case measure => simp [intOf]; omega
    · obtain rfl : k = L.length := by omega
      by_cases hS : S = []
      · have hL0 : L.length = 0 := by
          rcases Nat.eq_zero_or_pos L.length with h0 | h0
          · exact h0
          · have := (HC.out.2 L[0]).2 (by rw [List.take_length]; exact List.getElem_mem _)
            rw [hS] at this
            simp [keysOf] at this
        have HV := Lib.hid (victim_nil_ck HC.out.1 hS)
        go_wp2_with fail
        refine HV.out.mono ?_
        rintro e w' ⟨rfl, rfl⟩
        go_wp2_with fail
        refine (HK.out _).mono ?_
        rintro e w' ⟨rfl, hb⟩
        go_wp2_with fail
        go_ret
        exact ⟨rfl, HC.out.1.bl.trans (hb.mono HC.out.1.bl.size)⟩
      · have HV := Lib.hid (victim_ck HC.out.1 hS)
        go_wp2_with fail
        refine HV.out.mono ?_
        rintro e w2 ⟨k0, r0, hv0, rfl, hck⟩
        have HW := Lib.hid (And.intro hck hv0)
        clear hck hv0
        go_wp2_with fail
        go_loopw [9] (fun i wr => ∃ (j : Nat) (S' : St), j ≤ T.length ∧ i = .int .i64 j ∧ Ck w g mb (L.length + j) S' wr ∧ keysOf S' = keysOf (vic S) ∧ ∀ i < j, ∀ x, T[i]? = some x → x ∈ keysOf S' → (x, true) ∈ S') (fun i _ => T.length - (intOf i).toNat)
        case atStart => exact ⟨0, vic S, by omega, rfl, HW.out.1, rfl, by intro i hi; omega⟩
        case round =>
          obtain ⟨j, S', hj, rfl, hck, hke, htm⟩ := hrel
          have HX := Lib.hid (And.intro hck (And.intro hke htm))
          clear hck hke htm
          by_cases hlj : j < T.length
          · obtain ⟨b, off, rfl, hbw, c0⟩ := HS.out.2.at_ hlj
            have d0 := (HX.out.1.bl.cell (p := ⟨b, off + j, none⟩) hbw).trans c0
            have H0 := Lib.hid (And.intro c0 hbw)
            clear c0 hbw
            by_cases hin : T[j] ∈ keysOf S'
            · have HH := Lib.hid (has_ck HX.out.1 T[j] true (by simp [hin]))
              have HT := Lib.hid (touch_ck HX.out.1 T[j] (HO.out.2 _ (List.getElem_mem hlj)) (by omega))
              have HIN := Lib.hid hin
              clear hin
              go_wp2_with fail
              refine HH.out.mono ?_
              rintro e w' ⟨rfl, rfl⟩
              go_wp2_with fail
              refine HT.out.mono ?_
              rintro e w3 ⟨rfl, hck⟩
              have HJ := Lib.hid hck
              clear hck d0
              go_wp2_with fail
              go_roundw
              case rel =>
                refine ⟨j + 1, touch S' T[j], by omega, by go_num, HJ.out, by rw [touch_keys_in HIN.out]; exact HX.out.2.1, fun i hi x hx hk => ?_⟩
                rw [mem_touch]
                rw [touch_keys_in HIN.out] at hk
                by_cases hij : i = j
                · subst hij
                  rw [List.getElem?_eq_getElem hlj] at hx
                  exact .inl (Option.some.inj hx).symm
                · exact .inr (HX.out.2.2 i (by omega) x hx hk)
              case measure => simp [intOf]; omega
            · have HH := Lib.hid (has_ck HX.out.1 T[j] false (by simp [hin]))
              have HIN := Lib.hid hin
              clear hin
              go_wp2_with fail
              refine HH.out.mono ?_
              rintro e w' ⟨rfl, rfl⟩
              clear d0
              go_wp2_with fail
              go_roundw
              case rel =>
                refine ⟨j + 1, S', by omega, by go_num, ⟨HX.out.1.at_.elim fun v hv => ⟨v, hv.mono (by omega) (by omega)⟩, HX.out.1.bl⟩, HX.out.2.1, fun i hi x hx hk => ?_⟩
                by_cases hij : i = j
                · subst hij
                  rw [List.getElem?_eq_getElem hlj] at hx
                  rw [← Option.some.inj hx] at hk
                  exact absurd hk HIN.out
                · exact HX.out.2.2 i (by omega) x hx hk
              case measure => simp [intOf]; omega
          · obtain rfl : j = T.length := by omega
            have HKy := Lib.hid (keys_ck HX.out.1)
            have hfew := HX.out.1.few
            go_wp2_with fail
            refine Calls.mono HKy.out ?_
            rintro e w5 ⟨vk, rfl, hsl, hb5⟩
            obtain ⟨Ak, capk, rfl, _, _⟩ := hsl.any
            have H5 := Lib.hid (And.intro (HX.out.1.below hb5) hsl)
            clear hsl hb5
            go_wp2_with fail
            go_loopw [10, 12] (fun a i wz => ∃ (p : Nat) (q : Bool), p ≤ (keysOf S').length ∧ i = .int .i64 p ∧ a = .bool q ∧ (q = false → ∃ x ∈ S', x.2 = false) ∧ Below w5.heap.size w5 wz) (fun _ i _ => (keysOf S').length - (intOf i).toNat)
            case atStart => exact ⟨0, true, by omega, rfl, rfl, by simp, Below.refl _ _⟩
            case round =>
              obtain ⟨p, q, hp, rfl, rfl, hq, hbz⟩ := hrel
              have HZ := Lib.hid (And.intro hq hbz)
              clear hq hbz
              by_cases hlp : p < (keysOf S').length
              · cases q with
                | false =>
                  go_wp2_with fail
                  go_roundw
                  case rel => exact ⟨p + 1, false, by omega, by go_num, rfl, HZ.out.1, HZ.out.2⟩
                  case measure => simp [intOf]; omega
                | true =>
                  obtain ⟨bk, offk, capk', he, _, _⟩ := H5.out.2.shape (by omega)
                  cases he
                  have d0 := (H5.out.2.below HZ.out.2).cell (encs_at hlp)
                  have hkm : (keysOf S')[p] ∈ keysOf S' := List.getElem_mem hlp
                  have hck := H5.out.1.below HZ.out.2
                  by_cases hmk : ((keysOf S')[p], true) ∈ S'
                  · have HM := Lib.hid (marked_ck hck (keysOf S')[p] (hck.ok _ hkm) true (by simp [hmk]))
                    clear hkm hck hmk
                    go_wp2_with fail
                    refine HM.out.mono ?_
                    rintro e w6 ⟨rfl, hb6⟩
                    have H6 := Lib.hid hb6
                    clear hb6 d0
                    go_wp2_with fail
                    go_roundw
                    case rel => exact ⟨p + 1, true, by omega, by go_num, rfl, by simp, HZ.out.2.trans (H6.out.mono HZ.out.2.size)⟩
                    case measure => simp [intOf]; omega
                  · have HM := Lib.hid (marked_ck hck (keysOf S')[p] (hck.ok _ hkm) false (by simp [hmk]))
                    have HE : Hid (∃ x ∈ S', x.2 = false) := by
                      obtain ⟨m, hm0⟩ := mem_keys.1 hkm
                      cases m
                      · exact ⟨_, hm0, rfl⟩
                      · exact absurd hm0 hmk
                    clear hkm hck hmk
                    go_wp2_with fail
                    refine HM.out.mono ?_
                    rintro e w6 ⟨rfl, hb6⟩
                    have H6 := Lib.hid hb6
                    clear hb6 d0
                    go_wp2_with fail
                    go_roundw
                    case rel => exact ⟨p + 1, false, by omega, by go_num, rfl, fun _ => HE.out, HZ.out.2.trans (H6.out.mono HZ.out.2.size)⟩
                    case measure => simp [intOf]; omega
              · have hS' : S' ≠ [] := by
                  rintro rfl
                  have h1 := HX.out.2.1
                  rw [HW.out.2] at h1
                  cases h1
                have HV := Lib.hid (victim_ck (H5.out.1.below HZ.out.2) hS')
                clear hS'
                go_wp2_with fail
                refine HV.out.mono ?_
                rintro e w6 ⟨k1, r1, hv1, rfl, hck⟩
                have H6 := Lib.hid (And.intro hck hv1)
                clear hck hv1
                go_wp2_with fail
                go_loop [15] (fun i => ∃ j : Nat, j ≤ T.length ∧ i = .int .i64 j) (fun i => T.length - (intOf i).toNat)
                case atStart => exact ⟨0, by omega, rfl⟩
                case round =>
                  obtain ⟨j, hj, rfl⟩ := hrel
                  by_cases hlj : j < T.length
                  · obtain ⟨b, off, rfl, hbw, c0⟩ := HS.out.2.at_ hlj
                    have d0 := (H6.out.1.bl.cell (p := ⟨b, off + j, none⟩) hbw).trans c0
                    clear c0 hbw
                    by_cases he : T[j] = k1
                    · have ht := eq_yes he
                      have hq : q = true := by
                        cases q
                        · exfalso
                          have h1 := vic_bare (HZ.out.1 rfl) H6.out.2
                          have h2 := HX.out.2.2 j hlj k1 (by rw [List.getElem?_eq_getElem hlj, he]) (mem_keys.2 ⟨false, h1⟩)
                          exact both_marks HX.out.1.nodup h2 h1
                        · rfl
                      clear he
                      subst hq
                      go_wp2_with fail
                      go_round
                      case rel => exact ⟨j + 1, by omega, by go_num⟩
                      case measure => simp [intOf]; omega
                    · have ht := eq_no he
                      clear he
                      go_wp2_with fail
                      go_round
                      case rel => exact ⟨j + 1, by omega, by go_num⟩
                      case measure => simp [intOf]; omega
                  · go_wp2_with fail
                    refine (HK.out _).mono ?_
                    rintro e w' ⟨rfl, hb⟩
                    go_wp2_with fail
                    go_ret
                    exact ⟨rfl, H6.out.1.bl.trans (hb.mono H6.out.1.bl.size)⟩
theorem spares_walk (A : Option Addr) (L : List K) (cap : Nat) (_hlen : L.length ≤ maxLen) (hok : ∀ x ∈ L, kok x) (A' : Option Addr) (T : List K) (cap' : Nat) (_hlen' : T.length ≤ maxLen) (hok' : ∀ x ∈ T, kok x) (w : World) (hs : StrsAt w A L) (hs' : StrsAt w A' T) :
    Calls Try.prog 3 #[.slice A L.length cap, .slice A' T.length cap'] w fun e w' => e = .returned (.bool true) ∧ Below w.heap.size w w' := by
  by_cases h : (40 : Int) < L.length
  · exact spares_big A _ cap A' _ cap' w (.inl h)
  · by_cases h' : (40 : Int) < T.length
    · exact spares_big A _ cap A' _ cap' w (.inr h')
    · exact spares_main A L cap A' T cap' w hs hok hs' hok' h h'
end Go.Proofs.Ytcocdhlpmgfphaa
