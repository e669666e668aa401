/- posthouseref15: Touch, Drop. -/
import Derived.Test.YtcocdhlpmgfphaaRefS
namespace Go.Proofs.Ytcocdhlpmgfphaa
open Go Go.RowKit
open S

def RefV (L' : St) (w : World) (e : Ending) (w' : World) : Prop := ∃ v', e = .returned v' ∧ Rf w' w.heap.size v' L' ∧ Below w.heap.size w w'

/-! ### the copy -/
structure Cop (w : World) (L : St) (v1 : Value) (w1 : World) : Prop where
  bl : Below w.heap.size w w1
  row : Rf w1 w.heap.size v1 L
theorem cop_of {w w1 : World} {L : St} {v1 : Value} (hsl : Sl w1 w.heap.size 68 2 v1 L.length (cells2 L)) (hgrow : (w.alloc (.cells #[] 68)).grownBy w1 (some w.heap.size)) : Cop w L v1 w1 :=
  ⟨Below.grown (a := w) (w := w.alloc (.cells #[] 68)) (by go_grown) hgrow (by simp) (fun q hq => by cases hq; exact Nat.le_refl _), hsl⟩

set_option maxHeartbeats 1000000 in
theorem rtouch_in {B : Nat} (A : Option Addr) (cap : Nat) (L : St) (s : K) (w : World) (h : Rf w B (.slice A L.length cap) L) (hfew : L.length ≤ 1000000) (hn : (keysOf L).Nodup) (hin : s ∈ keysOf L) :
    Calls Try.prog 21 #[.slice A L.length cap, .string s] w (RefV (touch L s) w) := by
  obtain ⟨i0, hi, hz0, hz1, hz2⟩ := info_parts info68
  have hne := (show Sl _ _ _ _ _ _ _ from h).below (w' := w.alloc (.cells #[] 68)) (by go_grown)
  have HS := Lib.hid hne.news
  have HR := Lib.hid h
  have HI := Lib.hid (And.intro hn hin)
  have HD := Lib.hid (Sl.made w (B := w.heap.size) 68 2 0 #[] (Nat.le_refl _) (Nat.zero_le _) (by simp))
  clear h hne hn hin
  go_enter Try.func21, Try.ntmps21
  go_wp2_with (at_builtin; refine wpList_append_sl _ rfl (.tmp 7) (.tmp 8) 43 rfl 68 i0 (.agg #[.string ⟨#[]⟩, .bool false]) 2 24 Try.underlying43 hi hz0 hz1 hz2 rfl (by decide) rfl HD.out A L.length cap (cells2 L) rfl HS.out.1 (cells2_len L) HS.out.2 (cells2_one L) (by unfold maxLen; omega) (by omega) (by simp) ?_)
  intro v1 w1 hsl hgrow hown
  have hc := cop_of hsl hgrow
  obtain ⟨A1, cap1, rfl, _, _⟩ := hsl.any
  have HC := Lib.hid hc
  have HP := Lib.hid (place_any A cap L s w1 (show Rf _ _ _ _ from (show Sl _ _ _ _ _ _ _ from HR.out).below hc.bl) (by omega))
  clear hsl hgrow hown hc
  go_wp2_with fail
  refine Calls.mono HP.out ?_
  rintro e w' ⟨rfl, ⟨k, hk, _, rfl⟩ | ⟨hno, _⟩⟩
  · have hkl : k < L.length := by
      have := (List.getElem?_eq_some_iff.1 hk).1
      simpa [keysOf] using this
    have hke : L[k].1 = s := by simpa [keysOf, hkl] using hk
    have hrow : Sl w1 w.heap.size 68 2 (.slice A1 L.length cap1) L.length (cells2 L) := HC.out.row
    obtain ⟨b1, off1, cap1', he, _, _⟩ := hrow.shape (by omega)
    cases he
    have d0 : w1.cell? ⟨b1, off1 + k * 2 + 1, none⟩ = some (.bool L[k].2) := by rw [Nat.add_assoc]; exact hrow.cell (cells2_at hkl).2
    have d1 : w1.frozen? ⟨b1, off1 + k * 2 + 1, none⟩ = false := hrow.froz _
    have HK := Lib.hid (And.intro hke (hrow.store (j := k * 2 + 1) (.bool true)))
    have hge := hrow.ge b1 rfl
    clear hk hke hrow
    go_wp2_with fail
    go_ret
    refine ⟨_, rfl, ?_, HC.out.bl.setCell hge _⟩
    have h1 := HK.out.2
    rw [cells2_set hkl HK.out.1, ← touch_set HI.out.1 hkl HK.out.1, ← Nat.add_assoc] at h1
    have hl : (touch L s).length = L.length := by rw [touch_set HI.out.1 hkl HK.out.1]; simp
    show Sl _ _ _ _ _ _ _
    rw [hl]
    exact h1
  · exact absurd HI.out.2 hno
set_option maxHeartbeats 1000000 in
theorem rtouch_out {B : Nat} (A : Option Addr) (cap : Nat) (L : St) (s : K) (w : World) (h : Rf w B (.slice A L.length cap) L) (hfew : L.length ≤ 1000000) (hin : s ∉ keysOf L) :
    Calls Try.prog 21 #[.slice A L.length cap, .string s] w (RefV (touch L s) w) := by
  obtain ⟨i0, hi, hz0, hz1, hz2⟩ := info_parts info68
  have hne := (show Sl _ _ _ _ _ _ _ from h).below (w' := w.alloc (.cells #[] 68)) (by go_grown)
  have HS := Lib.hid hne.news
  have HR := Lib.hid h
  have HI := Lib.hid hin
  have HD := Lib.hid (Sl.made w (B := w.heap.size) 68 2 0 #[] (Nat.le_refl _) (Nat.zero_le _) (by simp))
  clear h hne hin
  go_enter Try.func21, Try.ntmps21
  go_wp2_with (at_builtin; refine wpList_append_sl _ rfl (.tmp 7) (.tmp 8) 43 rfl 68 i0 (.agg #[.string ⟨#[]⟩, .bool false]) 2 24 Try.underlying43 hi hz0 hz1 hz2 rfl (by decide) rfl HD.out A L.length cap (cells2 L) rfl HS.out.1 (cells2_len L) HS.out.2 (cells2_one L) (by unfold maxLen; omega) (by omega) (by simp) ?_)
  intro v1 w1 hsl hgrow hown
  have hc := cop_of hsl hgrow
  have HC := Lib.hid hc
  have HP := Lib.hid (place_any A cap L s w1 (show Rf _ _ _ _ from (show Sl _ _ _ _ _ _ _ from HR.out).below hc.bl) (by omega))
  clear hsl hgrow hown hc
  go_wp2_with fail
  refine Calls.mono HP.out ?_
  rintro e w' ⟨rfl, ⟨k, hk, _, rfl⟩ | ⟨_, rfl⟩⟩
  · exact absurd (List.mem_of_getElem? hk) HI.out
  · have hrow : Sl w1 w.heap.size 68 2 v1 L.length (cells2 L) := HC.out.row
    have HW := Lib.hid (hrow.below (w' := w1.alloc (.cells #[.string s, .bool true] 68)) (by go_grown))
    clear hrow
    go_wp2_with (at_builtin; refine wpList_append_sl _ rfl (.tmp 20) (.tmp 23) 43 rfl 68 i0 (.agg #[.string ⟨#[]⟩, .bool false]) 2 24 Try.underlying43 hi hz0 hz1 hz2 rfl (by decide) rfl HW.out (some ⟨w1.heap.size, 0, none⟩) 1 1 [.string s, .bool true] rfl (by simp) rfl (by intro ad had j u hu; cases had; match j, hu with | 0, hu => simp at hu; subst hu; simp [Addr.add] | 1, hu => simp at hu; subst hu; simp [Addr.add]) (by intro u hu; simp at hu; rcases hu with rfl | rfl <;> rfl) (by unfold maxLen; omega) (by omega) (by have := HC.out.bl.size; rw [alloc_size]; omega) ?_)
    intro v2 w2 hsl hgrow hown
    have HX := Lib.hid (And.intro hsl hgrow)
    clear hsl hgrow hown
    go_wp2_with fail
    go_ret
    refine ⟨_, rfl, ?_, ?_⟩
    · show Sl _ _ _ _ _ _ _
      unfold touch
      rw [if_neg HI.out, List.length_append, List.length_singleton, cells2_append]
      exact HX.out.1
    · have h1 := HC.out.bl
      exact Below.grown (w := w1.alloc (.cells #[.string s, .bool true] 68)) (h1.alloc h1.size _) HX.out.2 (by have := h1.size; rw [alloc_size]; omega) ((show Sl w1 w.heap.size 68 2 v1 L.length (cells2 L) from HC.out.row).ge)
theorem rtouch_any {B : Nat} (A : Option Addr) (cap : Nat) (L : St) (s : K) (w : World) (h : Rf w B (.slice A L.length cap) L) (hfew : L.length ≤ 1000000) (hn : (keysOf L).Nodup) :
    Calls Try.prog 21 #[.slice A L.length cap, .string s] w (RefV (touch L s) w) := by
  by_cases hin : s ∈ keysOf L
  · exact rtouch_in A cap L s w h hfew hn hin
  · exact rtouch_out A cap L s w h hfew hin

/-! ### Drop -/
theorem drop_yes' {L : St} {s : K} {k : Nat} (hk : k < L.length) (h : L[k].1 ≠ s) : drop (L.take (k + 1)) s = drop (L.take k) s ++ [L[k]] := by
  unfold drop
  rw [List.take_succ_eq_append_getElem hk, List.filter_append]
  congr 1
  simp [h]
theorem drop_no' {L : St} {s : K} {k : Nat} (hk : k < L.length) (h : L[k].1 = s) : drop (L.take (k + 1)) s = drop (L.take k) s := by
  unfold drop
  rw [List.take_succ_eq_append_getElem hk, List.filter_append]
  simp [h]
set_option maxHeartbeats 2000000 in
theorem rdrop_any {B : Nat} (A : Option Addr) (cap : Nat) (L : St) (s : K) (w : World) (h : Rf w B (.slice A L.length cap) L) (hfew : L.length ≤ 1000000) :
    Calls Try.prog 24 #[.slice A L.length cap, .string s] w (RefV (drop L s) w) := by
  obtain ⟨i0, hi, hz0, hz1, hz2⟩ := info_parts info68
  have HR := Lib.hid h
  clear h
  go_enter Try.func24, Try.ntmps24
  go_wp2_with fail
  go_loopw [5, 6] (fun v i wr => ∃ k : Nat, k ≤ L.length ∧ i = .int .i64 k ∧ Rf wr w.heap.size v (drop (L.take k) s) ∧ Below w.heap.size w wr) (fun _ i _ => L.length - (intOf i).toNat)
  case atStart => exact ⟨0, by omega, rfl, Sl.nil _ _ _ _, Below.refl _ _⟩
  case round =>
    obtain ⟨k, hk, rfl, hrow, hbl⟩ := hrel
    have HX := Lib.hid (And.intro hrow hbl)
    have hdl : (drop (L.take k) s).length ≤ k := by
      refine Nat.le_trans (List.length_filter_le _ _) ?_
      simp; omega
    clear hrow hbl
    by_cases hlt : k < L.length
    · obtain ⟨b, off, cap', he, _, _⟩ := (show Sl w B 68 2 (.slice A L.length cap) L.length (cells2 L) from HR.out).shape (by omega)
      cases he
      have hr' := (show Sl w B 68 2 (.slice (some ⟨b, off, none⟩) L.length cap) L.length (cells2 L) from HR.out).below HX.out.2
      have hc := hr'.cell (cells2_at hlt).1
      have hc2 : wr.cell? ⟨b, off + k * 2 + 1, none⟩ = some (.bool L[k].2) := by rw [Nat.add_assoc]; exact hr'.cell (cells2_at hlt).2
      clear hr'
      by_cases he : L[k].1 = s
      · have HE := Lib.hid he
        have ht := eq_yes he
        clear he
        go_wp2_with fail
        go_roundw
        case rel => exact ⟨k + 1, by omega, by go_num, by rw [drop_no' hlt HE.out]; exact HX.out.1, HX.out.2⟩
        case measure => simp [intOf]; omega
      · have HE := Lib.hid he
        have ht := eq_no he
        have HW := Lib.hid ((show Sl wr w.heap.size 68 2 _ _ _ from HX.out.1).below (w' := wr.alloc (.cells #[.string L[k].1, .bool L[k].2] 68)) (by go_grown))
        clear he
        go_wp2_with (at_builtin; refine wpList_append_sl _ rfl (.tmp 20) (.tmp 25) 43 rfl 68 i0 (.agg #[.string ⟨#[]⟩, .bool false]) 2 24 Try.underlying43 hi hz0 hz1 hz2 rfl (by decide) rfl HW.out (some ⟨wr.heap.size, 0, none⟩) 1 1 [.string L[k].1, .bool L[k].2] rfl (by simp) rfl (by intro ad had j u hu; cases had; match j, hu with | 0, hu => simp at hu; subst hu; simp [Addr.add] | 1, hu => simp at hu; subst hu; simp [Addr.add]) (by intro u hu; simp at hu; rcases hu with rfl | rfl <;> rfl) (by unfold maxLen; omega) (by omega) (by have := HX.out.2.size; rw [alloc_size]; omega) ?_)
        intro v2 w2 hsl hgrow hown
        have HY := Lib.hid (And.intro hsl hgrow)
        clear hsl hgrow hown hc hc2
        go_wp2_with fail
        go_roundw
        case rel =>
          refine ⟨k + 1, by omega, by go_num, ?_, ?_⟩
          · show Sl _ _ _ _ _ _ _
            rw [drop_yes' hlt HE.out, List.length_append, List.length_singleton, cells2_append]
            exact HY.out.1
          · have h1 := HX.out.2
            exact Below.grown (w := wr.alloc (.cells #[.string L[k].1, .bool L[k].2] 68)) (h1.alloc h1.size _) HY.out.2 (by have := h1.size; rw [alloc_size]; omega) ((show Sl wr w.heap.size 68 2 _ _ _ from HX.out.1).ge)
        case measure => simp [intOf]; omega
    · obtain rfl : k = L.length := by omega
      go_wp2_with fail
      go_ret
      exact ⟨_, rfl, by have := HX.out.1; rw [List.take_length] at this; exact this, HX.out.2⟩
end Go.Proofs.Ytcocdhlpmgfphaa
