/- index: slices.DeleteFunc (printed by gen_bs.py off its template). -/
import Derived.Test.YtokhnbdhcehonaaGreatIx
set_option linter.unusedSimpArgs false
set_option linter.unusedVariables false
namespace Go.Proofs.YtokhnbdhcehonaaGreat
open Go Go.RowKit Row
set_option maxRecDepth 100000
set_option maxHeartbeats 16000000 in
theorem dl_Hd {l : List Hd} {v : Value} {B : Nat} {w : World} {g : Nat} {lb : Array Value} {p : Hd → Bool} (hp : PB B w g lb p) (hB : B ≤ w.heap.size) (h : Rs w B v l) :
    Calls Tryz.prog 133 #[v, .func (.func g) #[] lb] w fun e w' => ∃ v', e = .returned v' ∧ Rs w' B v' (l.filter fun x => !p x) ∧ Below B w w' := by
  have HIX := Lib.hid (ix_Hd hp hB h)
  have HP := Lib.hid hp
  have HR := Lib.hid h
  have eg := hp.eg
  obtain ⟨A, cap, hv, hlc, hcap⟩ := h.any
  subst hv
  clear hp h
  go_enter Tryz.func133, Tryz.ntmps133
  go_wp2_with fail
  refine HIX.out.mono ?_
  rintro e w1 ⟨i0, rfl, hb1, hcase⟩
  clear HIX
  rcases hcase with ⟨rfl, hno⟩ | ⟨j0, hj0, rfl, hpj, hno⟩
  · have HR1 := Lib.hid (HR.out.below hb1)
    have HB1 := Lib.hid (hb1.mono hB)
    have HF : Hid (l.filter (fun x => !p x) = l) := Lib.hid (filter_all fun y hy => by rw [hno y hy]; rfl)
    clear hno hb1
    go_wp2_with fail
    go_ret
    exact ⟨_, rfl, by rw [HF.out]; exact HR1.out, HB1.out⟩
  · have HR1 := Lib.hid (HR.out.below hb1)
    have HB1 := Lib.hid (hb1.mono hB)
    have HF : Hid (l.take j0 = (l.take (j0 + 1)).filter fun x => !p x) := Lib.hid (by
      rw [List.take_succ_eq_append_getElem hj0, List.filter_append, filter_all (fun y hy => by rw [hno y hy]; rfl), List.filter_cons, hpj]
      simp)
    have ej : ((j0 : Int) == -1) = false := by simp
    obtain ⟨b, off, cap', he, hlc', _⟩ := HR1.out.shape (by omega)
    cases he
    have hm63 : maxLen = 9223372036854775807 := rfl
    clear hno hb1 hpj HR
    go_wp2_with fail
    go_loopw [5, 6] (fun s5 s6 wq => ∃ i j : Nat, s5 = .int .i64 i ∧ s6 = .int .i64 j ∧ i < j ∧ j ≤ l.length ∧ (∃ L : List Hd, L.length = l.length ∧ L.take i = (l.take j).filter (fun x => !p x) ∧ L.drop j = l.drop j ∧ Rs wq B (.slice (some ⟨b, off, none⟩) l.length cap) L) ∧ Below B w wq) (fun s5 s6 _ => l.length - (intOf s6).toNat)
    case atStart => exact ⟨j0, j0 + 1, rfl, by go_num, by omega, by omega, ⟨l, rfl, HF.out, rfl, HR1.out⟩, HB1.out⟩
    case round =>
      obtain ⟨i, j, rfl, rfl, hij, hjl, ⟨L, hL, hLt, hLd, hrq⟩, hbq⟩ := hrel
      have HQ := Lib.hid hbq
      have HL := Lib.hid (And.intro hLt hLd)
      rw [← hL] at hrq
      have HRQ := Lib.hid hrq
      have HLL := Lib.hid hL
      clear hbq hLt hLd hrq HR1 HB1
      by_cases hlt : j < l.length
      · have hltI : (j : Int) < (l.length : Int) := by omega
        have hjL : j < L.length := by omega
        have HX : Hid (L[j] = l[j]) := Lib.hid (by
          have h1 := HL.out.2
          rw [List.drop_eq_getElem_cons hjL, List.drop_eq_getElem_cons hlt] at h1
          exact (List.cons.inj h1).1)
        have HE := Lib.hid (HRQ.out.range hjL)
        rw [HX.out] at HE
        have HW2 : Hid (Below wr.heap.size wr (wr.alloc (.cells (arr l[j]) (RowT.T Hd)))) := Lib.hid (by go_grown)
        have HC := Lib.hid (HP.out.says (wr.alloc (.cells (arr l[j]) (RowT.T Hd))) l[j] (HQ.out.trans (HW2.out.mono (Nat.le_trans hB HQ.out.size))))
        have HTK : Hid ((l.take (j + 1)).filter (fun x => !p x) = (l.take j).filter (fun x => !p x) ++ if p l[j] = true then [] else [l[j]]) := Lib.hid (by
          rw [List.take_succ_eq_append_getElem hlt, List.filter_append, List.filter_cons]
          cases p l[j] <;> simp)
        cases hpx : p l[j] with
        | true =>
          rw [hpx] at HC HTK
          clear hpx
          go_wp2_with (first
            | (refine rw_put (α := Hd) _ 7 (.tmp 25) rfl rfl rfl rfl rfl rfl l[j] rfl rfl ?_)
            | (refine rw_load (α := Hd) rfl (.tmp 24) rfl b (off + j * 3) rfl l[j] HE.out ?_)
            | (refine rw_load (α := Hd) rfl (.tmp 7) rfl wr.heap.size 0 rfl l[j] (range_row (heap_alloc_new _ _)) ?_)
            | (go_at_fn g; refine HC.out.mono ?_; rintro e w' ⟨rfl, hbw⟩; have HBW := Lib.hid (HW2.out.trans (hbw.mono HW2.out.size)); clear hbw))
          go_roundw
          case rel => exact ⟨i, j + 1, rfl, by go_num, by omega, by omega, ⟨L, HLL.out, by rw [HTK.out]; simpa using HL.out.1, by have := congrArg (List.drop 1) HL.out.2; simpa [List.drop_drop] using this, by rw [← HLL.out]; exact HRQ.out.below HBW.out⟩, HQ.out.trans (HBW.out.mono (Nat.le_trans hB HQ.out.size))⟩
          case measure => simp [intOf]; omega
        | false =>
          rw [hpx] at HC HTK
          clear hpx
          have hiI : (i : Int) < (l.length : Int) := by omega
          go_wp2_with (first
            | (refine rw_put (α := Hd) _ 7 (.tmp 25) rfl rfl rfl rfl rfl rfl l[j] rfl rfl ?_)
            | (refine rw_load (α := Hd) rfl (.tmp 24) rfl b (off + j * 3) rfl l[j] HE.out ?_)
            | (refine rw_load (α := Hd) rfl (.tmp 7) rfl wr.heap.size 0 rfl l[j] (range_row (heap_alloc_new _ _)) ?_)
            | (go_at_fn g; refine HC.out.mono ?_; rintro e w' ⟨rfl, hbw⟩; have HBW := Lib.hid (HW2.out.trans (hbw.mono HW2.out.size)); have HX7 := Lib.hid ((hbw.block _ (by rw [alloc_size]; omega)).trans (heap_alloc_new wr _)); have HRW := Lib.hid (HRQ.out.below HBW.out); clear hbw)
            | (refine rw_load (α := Hd) rfl (.tmp 7) rfl wr.heap.size 0 rfl l[j] (range_row HX7.out) ?_)
            | (refine rw_set (α := Hd) rfl (.tmp 33) (.tmp 32) rfl HRW.out (j := i) (by omega) l[j] rfl rfl ?_; intro w3 h3 hg3 hs3; have HR3 := Lib.hid h3; have HB3 := Lib.hid ((HQ.out.trans (HBW.out.mono (Nat.le_trans hB HQ.out.size))).grown hg3 (Nat.le_trans hB (HQ.out.trans (HBW.out.mono (Nat.le_trans hB HQ.out.size))).size) (fun k hk => by cases hk; exact HRQ.out.ge b rfl)); clear h3 hg3 hs3))
          go_roundw
          case rel => exact ⟨i + 1, j + 1, by go_num, by go_num, by omega, by omega, ⟨L.set i l[j], by rw [List.length_set]; exact HLL.out, by
              rw [HTK.out, if_neg (by simp), ← HL.out.1, List.take_succ_eq_append_getElem (by rw [List.length_set]; omega), List.getElem_set_self, List.take_set_of_le (Nat.le_refl _)], by
              rw [List.drop_set_of_lt (by omega)]
              have := congrArg (List.drop 1) HL.out.2
              simpa [List.drop_drop] using this, by rw [← HLL.out]; exact HR3.out⟩, HB3.out⟩
          case measure => simp [intOf]; omega
      · have hltI : ¬ (j : Int) < (l.length : Int) := by omega
        obtain rfl : j = l.length := by omega
        have hic : ¬ cap = i := by omega
        have HFL : Hid (L.take i = l.filter fun x => !p x) := Lib.hid (by rw [HL.out.1, List.take_length])
        have HRZ := HRQ.out
        rw [HLL.out] at HRZ
        have HLX := Lib.hid HRZ
        clear HRZ
        go_wp2_with (refine rw_clear (α := Hd) rfl (.tmp 38) rfl HRQ.out (i := i) (c' := cap - i) (by omega) (by rw [HLL.out]; rfl) ?_; intro w3 h3 hg3 hs3; have HR3 := Lib.hid h3; have HB3 := Lib.hid (HQ.out.grown hg3 (Nat.le_trans hB HQ.out.size) (fun k hk => by cases hk; exact HRQ.out.ge b rfl)); clear h3 hg3 hs3)
        go_ret
        exact ⟨_, rfl, by rw [← HFL.out]; exact HR3.out, HB3.out⟩
set_option maxHeartbeats 16000000 in
theorem dl_Fl {l : List Fl} {v : Value} {B : Nat} {w : World} {g : Nat} {lb : Array Value} {p : Fl → Bool} (hp : PB B w g lb p) (hB : B ≤ w.heap.size) (h : Rs w B v l) :
    Calls Tryz.prog 136 #[v, .func (.func g) #[] lb] w fun e w' => ∃ v', e = .returned v' ∧ Rs w' B v' (l.filter fun x => !p x) ∧ Below B w w' := by
  have HIX := Lib.hid (ix_Fl hp hB h)
  have HP := Lib.hid hp
  have HR := Lib.hid h
  have eg := hp.eg
  obtain ⟨A, cap, hv, hlc, hcap⟩ := h.any
  subst hv
  clear hp h
  go_enter Tryz.func136, Tryz.ntmps136
  go_wp2_with fail
  refine HIX.out.mono ?_
  rintro e w1 ⟨i0, rfl, hb1, hcase⟩
  clear HIX
  rcases hcase with ⟨rfl, hno⟩ | ⟨j0, hj0, rfl, hpj, hno⟩
  · have HR1 := Lib.hid (HR.out.below hb1)
    have HB1 := Lib.hid (hb1.mono hB)
    have HF : Hid (l.filter (fun x => !p x) = l) := Lib.hid (filter_all fun y hy => by rw [hno y hy]; rfl)
    clear hno hb1
    go_wp2_with fail
    go_ret
    exact ⟨_, rfl, by rw [HF.out]; exact HR1.out, HB1.out⟩
  · have HR1 := Lib.hid (HR.out.below hb1)
    have HB1 := Lib.hid (hb1.mono hB)
    have HF : Hid (l.take j0 = (l.take (j0 + 1)).filter fun x => !p x) := Lib.hid (by
      rw [List.take_succ_eq_append_getElem hj0, List.filter_append, filter_all (fun y hy => by rw [hno y hy]; rfl), List.filter_cons, hpj]
      simp)
    have ej : ((j0 : Int) == -1) = false := by simp
    obtain ⟨b, off, cap', he, hlc', _⟩ := HR1.out.shape (by omega)
    cases he
    have hm63 : maxLen = 9223372036854775807 := rfl
    clear hno hb1 hpj HR
    go_wp2_with fail
    go_loopw [5, 6] (fun s5 s6 wq => ∃ i j : Nat, s5 = .int .i64 i ∧ s6 = .int .i64 j ∧ i < j ∧ j ≤ l.length ∧ (∃ L : List Fl, L.length = l.length ∧ L.take i = (l.take j).filter (fun x => !p x) ∧ L.drop j = l.drop j ∧ Rs wq B (.slice (some ⟨b, off, none⟩) l.length cap) L) ∧ Below B w wq) (fun s5 s6 _ => l.length - (intOf s6).toNat)
    case atStart => exact ⟨j0, j0 + 1, rfl, by go_num, by omega, by omega, ⟨l, rfl, HF.out, rfl, HR1.out⟩, HB1.out⟩
    case round =>
      obtain ⟨i, j, rfl, rfl, hij, hjl, ⟨L, hL, hLt, hLd, hrq⟩, hbq⟩ := hrel
      have HQ := Lib.hid hbq
      have HL := Lib.hid (And.intro hLt hLd)
      rw [← hL] at hrq
      have HRQ := Lib.hid hrq
      have HLL := Lib.hid hL
      clear hbq hLt hLd hrq HR1 HB1
      by_cases hlt : j < l.length
      · have hltI : (j : Int) < (l.length : Int) := by omega
        have hjL : j < L.length := by omega
        have HX : Hid (L[j] = l[j]) := Lib.hid (by
          have h1 := HL.out.2
          rw [List.drop_eq_getElem_cons hjL, List.drop_eq_getElem_cons hlt] at h1
          exact (List.cons.inj h1).1)
        have HE := Lib.hid (HRQ.out.range hjL)
        rw [HX.out] at HE
        have HW2 : Hid (Below wr.heap.size wr (wr.alloc (.cells (arr l[j]) (RowT.T Fl)))) := Lib.hid (by go_grown)
        have HC := Lib.hid (HP.out.says (wr.alloc (.cells (arr l[j]) (RowT.T Fl))) l[j] (HQ.out.trans (HW2.out.mono (Nat.le_trans hB HQ.out.size))))
        have HTK : Hid ((l.take (j + 1)).filter (fun x => !p x) = (l.take j).filter (fun x => !p x) ++ if p l[j] = true then [] else [l[j]]) := Lib.hid (by
          rw [List.take_succ_eq_append_getElem hlt, List.filter_append, List.filter_cons]
          cases p l[j] <;> simp)
        cases hpx : p l[j] with
        | true =>
          rw [hpx] at HC HTK
          clear hpx
          go_wp2_with (first
            | (refine rw_put (α := Fl) _ 7 (.tmp 25) rfl rfl rfl rfl rfl rfl l[j] rfl rfl ?_)
            | (refine rw_load (α := Fl) rfl (.tmp 24) rfl b (off + j * 11) rfl l[j] HE.out ?_)
            | (refine rw_load (α := Fl) rfl (.tmp 7) rfl wr.heap.size 0 rfl l[j] (range_row (heap_alloc_new _ _)) ?_)
            | (go_at_fn g; refine HC.out.mono ?_; rintro e w' ⟨rfl, hbw⟩; have HBW := Lib.hid (HW2.out.trans (hbw.mono HW2.out.size)); clear hbw))
          go_roundw
          case rel => exact ⟨i, j + 1, rfl, by go_num, by omega, by omega, ⟨L, HLL.out, by rw [HTK.out]; simpa using HL.out.1, by have := congrArg (List.drop 1) HL.out.2; simpa [List.drop_drop] using this, by rw [← HLL.out]; exact HRQ.out.below HBW.out⟩, HQ.out.trans (HBW.out.mono (Nat.le_trans hB HQ.out.size))⟩
          case measure => simp [intOf]; omega
        | false =>
          rw [hpx] at HC HTK
          clear hpx
          have hiI : (i : Int) < (l.length : Int) := by omega
          go_wp2_with (first
            | (refine rw_put (α := Fl) _ 7 (.tmp 25) rfl rfl rfl rfl rfl rfl l[j] rfl rfl ?_)
            | (refine rw_load (α := Fl) rfl (.tmp 24) rfl b (off + j * 11) rfl l[j] HE.out ?_)
            | (refine rw_load (α := Fl) rfl (.tmp 7) rfl wr.heap.size 0 rfl l[j] (range_row (heap_alloc_new _ _)) ?_)
            | (go_at_fn g; refine HC.out.mono ?_; rintro e w' ⟨rfl, hbw⟩; have HBW := Lib.hid (HW2.out.trans (hbw.mono HW2.out.size)); have HX7 := Lib.hid ((hbw.block _ (by rw [alloc_size]; omega)).trans (heap_alloc_new wr _)); have HRW := Lib.hid (HRQ.out.below HBW.out); clear hbw)
            | (refine rw_load (α := Fl) rfl (.tmp 7) rfl wr.heap.size 0 rfl l[j] (range_row HX7.out) ?_)
            | (refine rw_set (α := Fl) rfl (.tmp 33) (.tmp 32) rfl HRW.out (j := i) (by omega) l[j] rfl rfl ?_; intro w3 h3 hg3 hs3; have HR3 := Lib.hid h3; have HB3 := Lib.hid ((HQ.out.trans (HBW.out.mono (Nat.le_trans hB HQ.out.size))).grown hg3 (Nat.le_trans hB (HQ.out.trans (HBW.out.mono (Nat.le_trans hB HQ.out.size))).size) (fun k hk => by cases hk; exact HRQ.out.ge b rfl)); clear h3 hg3 hs3))
          go_roundw
          case rel => exact ⟨i + 1, j + 1, by go_num, by go_num, by omega, by omega, ⟨L.set i l[j], by rw [List.length_set]; exact HLL.out, by
              rw [HTK.out, if_neg (by simp), ← HL.out.1, List.take_succ_eq_append_getElem (by rw [List.length_set]; omega), List.getElem_set_self, List.take_set_of_le (Nat.le_refl _)], by
              rw [List.drop_set_of_lt (by omega)]
              have := congrArg (List.drop 1) HL.out.2
              simpa [List.drop_drop] using this, by rw [← HLL.out]; exact HR3.out⟩, HB3.out⟩
          case measure => simp [intOf]; omega
      · have hltI : ¬ (j : Int) < (l.length : Int) := by omega
        obtain rfl : j = l.length := by omega
        have hic : ¬ cap = i := by omega
        have HFL : Hid (L.take i = l.filter fun x => !p x) := Lib.hid (by rw [HL.out.1, List.take_length])
        have HRZ := HRQ.out
        rw [HLL.out] at HRZ
        have HLX := Lib.hid HRZ
        clear HRZ
        go_wp2_with (refine rw_clear (α := Fl) rfl (.tmp 38) rfl HRQ.out (i := i) (c' := cap - i) (by omega) (by rw [HLL.out]; rfl) ?_; intro w3 h3 hg3 hs3; have HR3 := Lib.hid h3; have HB3 := Lib.hid (HQ.out.grown hg3 (Nat.le_trans hB HQ.out.size) (fun k hk => by cases hk; exact HRQ.out.ge b rfl)); clear h3 hg3 hs3)
        go_ret
        exact ⟨_, rfl, by rw [← HFL.out]; exact HR3.out, HB3.out⟩
set_option maxHeartbeats 16000000 in
theorem dl_Nm {l : List Nm} {v : Value} {B : Nat} {w : World} {g : Nat} {lb : Array Value} {p : Nm → Bool} (hp : PB B w g lb p) (hB : B ≤ w.heap.size) (h : Rs w B v l) :
    Calls Tryz.prog 140 #[v, .func (.func g) #[] lb] w fun e w' => ∃ v', e = .returned v' ∧ Rs w' B v' (l.filter fun x => !p x) ∧ Below B w w' := by
  have HIX := Lib.hid (ix_Nm hp hB h)
  have HP := Lib.hid hp
  have HR := Lib.hid h
  have eg := hp.eg
  obtain ⟨A, cap, hv, hlc, hcap⟩ := h.any
  subst hv
  clear hp h
  go_enter Tryz.func140, Tryz.ntmps140
  go_wp2_with fail
  refine HIX.out.mono ?_
  rintro e w1 ⟨i0, rfl, hb1, hcase⟩
  clear HIX
  rcases hcase with ⟨rfl, hno⟩ | ⟨j0, hj0, rfl, hpj, hno⟩
  · have HR1 := Lib.hid (HR.out.below hb1)
    have HB1 := Lib.hid (hb1.mono hB)
    have HF : Hid (l.filter (fun x => !p x) = l) := Lib.hid (filter_all fun y hy => by rw [hno y hy]; rfl)
    clear hno hb1
    go_wp2_with fail
    go_ret
    exact ⟨_, rfl, by rw [HF.out]; exact HR1.out, HB1.out⟩
  · have HR1 := Lib.hid (HR.out.below hb1)
    have HB1 := Lib.hid (hb1.mono hB)
    have HF : Hid (l.take j0 = (l.take (j0 + 1)).filter fun x => !p x) := Lib.hid (by
      rw [List.take_succ_eq_append_getElem hj0, List.filter_append, filter_all (fun y hy => by rw [hno y hy]; rfl), List.filter_cons, hpj]
      simp)
    have ej : ((j0 : Int) == -1) = false := by simp
    obtain ⟨b, off, cap', he, hlc', _⟩ := HR1.out.shape (by omega)
    cases he
    have hm63 : maxLen = 9223372036854775807 := rfl
    clear hno hb1 hpj HR
    go_wp2_with fail
    go_loopw [5, 6] (fun s5 s6 wq => ∃ i j : Nat, s5 = .int .i64 i ∧ s6 = .int .i64 j ∧ i < j ∧ j ≤ l.length ∧ (∃ L : List Nm, L.length = l.length ∧ L.take i = (l.take j).filter (fun x => !p x) ∧ L.drop j = l.drop j ∧ Rs wq B (.slice (some ⟨b, off, none⟩) l.length cap) L) ∧ Below B w wq) (fun s5 s6 _ => l.length - (intOf s6).toNat)
    case atStart => exact ⟨j0, j0 + 1, rfl, by go_num, by omega, by omega, ⟨l, rfl, HF.out, rfl, HR1.out⟩, HB1.out⟩
    case round =>
      obtain ⟨i, j, rfl, rfl, hij, hjl, ⟨L, hL, hLt, hLd, hrq⟩, hbq⟩ := hrel
      have HQ := Lib.hid hbq
      have HL := Lib.hid (And.intro hLt hLd)
      rw [← hL] at hrq
      have HRQ := Lib.hid hrq
      have HLL := Lib.hid hL
      clear hbq hLt hLd hrq HR1 HB1
      by_cases hlt : j < l.length
      · have hltI : (j : Int) < (l.length : Int) := by omega
        have hjL : j < L.length := by omega
        have HX : Hid (L[j] = l[j]) := Lib.hid (by
          have h1 := HL.out.2
          rw [List.drop_eq_getElem_cons hjL, List.drop_eq_getElem_cons hlt] at h1
          exact (List.cons.inj h1).1)
        have HE := Lib.hid (HRQ.out.range hjL)
        rw [HX.out] at HE
        have HW2 : Hid (Below wr.heap.size wr (wr.alloc (.cells (arr l[j]) (RowT.T Nm)))) := Lib.hid (by go_grown)
        have HC := Lib.hid (HP.out.says (wr.alloc (.cells (arr l[j]) (RowT.T Nm))) l[j] (HQ.out.trans (HW2.out.mono (Nat.le_trans hB HQ.out.size))))
        have HTK : Hid ((l.take (j + 1)).filter (fun x => !p x) = (l.take j).filter (fun x => !p x) ++ if p l[j] = true then [] else [l[j]]) := Lib.hid (by
          rw [List.take_succ_eq_append_getElem hlt, List.filter_append, List.filter_cons]
          cases p l[j] <;> simp)
        cases hpx : p l[j] with
        | true =>
          rw [hpx] at HC HTK
          clear hpx
          go_wp2_with (first
            | (refine rw_put (α := Nm) _ 7 (.tmp 25) rfl rfl rfl rfl rfl rfl l[j] rfl rfl ?_)
            | (refine rw_load (α := Nm) rfl (.tmp 24) rfl b (off + j * 3) rfl l[j] HE.out ?_)
            | (refine rw_load (α := Nm) rfl (.tmp 7) rfl wr.heap.size 0 rfl l[j] (range_row (heap_alloc_new _ _)) ?_)
            | (go_at_fn g; refine HC.out.mono ?_; rintro e w' ⟨rfl, hbw⟩; have HBW := Lib.hid (HW2.out.trans (hbw.mono HW2.out.size)); clear hbw))
          go_roundw
          case rel => exact ⟨i, j + 1, rfl, by go_num, by omega, by omega, ⟨L, HLL.out, by rw [HTK.out]; simpa using HL.out.1, by have := congrArg (List.drop 1) HL.out.2; simpa [List.drop_drop] using this, by rw [← HLL.out]; exact HRQ.out.below HBW.out⟩, HQ.out.trans (HBW.out.mono (Nat.le_trans hB HQ.out.size))⟩
          case measure => simp [intOf]; omega
        | false =>
          rw [hpx] at HC HTK
          clear hpx
          have hiI : (i : Int) < (l.length : Int) := by omega
          go_wp2_with (first
            | (refine rw_put (α := Nm) _ 7 (.tmp 25) rfl rfl rfl rfl rfl rfl l[j] rfl rfl ?_)
            | (refine rw_load (α := Nm) rfl (.tmp 24) rfl b (off + j * 3) rfl l[j] HE.out ?_)
            | (refine rw_load (α := Nm) rfl (.tmp 7) rfl wr.heap.size 0 rfl l[j] (range_row (heap_alloc_new _ _)) ?_)
            | (go_at_fn g; refine HC.out.mono ?_; rintro e w' ⟨rfl, hbw⟩; have HBW := Lib.hid (HW2.out.trans (hbw.mono HW2.out.size)); have HX7 := Lib.hid ((hbw.block _ (by rw [alloc_size]; omega)).trans (heap_alloc_new wr _)); have HRW := Lib.hid (HRQ.out.below HBW.out); clear hbw)
            | (refine rw_load (α := Nm) rfl (.tmp 7) rfl wr.heap.size 0 rfl l[j] (range_row HX7.out) ?_)
            | (refine rw_set (α := Nm) rfl (.tmp 33) (.tmp 32) rfl HRW.out (j := i) (by omega) l[j] rfl rfl ?_; intro w3 h3 hg3 hs3; have HR3 := Lib.hid h3; have HB3 := Lib.hid ((HQ.out.trans (HBW.out.mono (Nat.le_trans hB HQ.out.size))).grown hg3 (Nat.le_trans hB (HQ.out.trans (HBW.out.mono (Nat.le_trans hB HQ.out.size))).size) (fun k hk => by cases hk; exact HRQ.out.ge b rfl)); clear h3 hg3 hs3))
          go_roundw
          case rel => exact ⟨i + 1, j + 1, by go_num, by go_num, by omega, by omega, ⟨L.set i l[j], by rw [List.length_set]; exact HLL.out, by
              rw [HTK.out, if_neg (by simp), ← HL.out.1, List.take_succ_eq_append_getElem (by rw [List.length_set]; omega), List.getElem_set_self, List.take_set_of_le (Nat.le_refl _)], by
              rw [List.drop_set_of_lt (by omega)]
              have := congrArg (List.drop 1) HL.out.2
              simpa [List.drop_drop] using this, by rw [← HLL.out]; exact HR3.out⟩, HB3.out⟩
          case measure => simp [intOf]; omega
      · have hltI : ¬ (j : Int) < (l.length : Int) := by omega
        obtain rfl : j = l.length := by omega
        have hic : ¬ cap = i := by omega
        have HFL : Hid (L.take i = l.filter fun x => !p x) := Lib.hid (by rw [HL.out.1, List.take_length])
        have HRZ := HRQ.out
        rw [HLL.out] at HRZ
        have HLX := Lib.hid HRZ
        clear HRZ
        go_wp2_with (refine rw_clear (α := Nm) rfl (.tmp 38) rfl HRQ.out (i := i) (c' := cap - i) (by omega) (by rw [HLL.out]; rfl) ?_; intro w3 h3 hg3 hs3; have HR3 := Lib.hid h3; have HB3 := Lib.hid (HQ.out.grown hg3 (Nat.le_trans hB HQ.out.size) (fun k hk => by cases hk; exact HRQ.out.ge b rfl)); clear h3 hg3 hs3)
        go_ret
        exact ⟨_, rfl, by rw [← HFL.out]; exact HR3.out, HB3.out⟩
set_option maxHeartbeats 16000000 in
theorem dl_Bl {l : List Bl} {v : Value} {B : Nat} {w : World} {g : Nat} {lb : Array Value} {p : Bl → Bool} (hp : PB B w g lb p) (hB : B ≤ w.heap.size) (h : Rs w B v l) :
    Calls Tryz.prog 131 #[v, .func (.func g) #[] lb] w fun e w' => ∃ v', e = .returned v' ∧ Rs w' B v' (l.filter fun x => !p x) ∧ Below B w w' := by
  have HIX := Lib.hid (ix_Bl hp hB h)
  have HP := Lib.hid hp
  have HR := Lib.hid h
  have eg := hp.eg
  obtain ⟨A, cap, hv, hlc, hcap⟩ := h.any
  subst hv
  clear hp h
  go_enter Tryz.func131, Tryz.ntmps131
  go_wp2_with fail
  refine HIX.out.mono ?_
  rintro e w1 ⟨i0, rfl, hb1, hcase⟩
  clear HIX
  rcases hcase with ⟨rfl, hno⟩ | ⟨j0, hj0, rfl, hpj, hno⟩
  · have HR1 := Lib.hid (HR.out.below hb1)
    have HB1 := Lib.hid (hb1.mono hB)
    have HF : Hid (l.filter (fun x => !p x) = l) := Lib.hid (filter_all fun y hy => by rw [hno y hy]; rfl)
    clear hno hb1
    go_wp2_with fail
    go_ret
    exact ⟨_, rfl, by rw [HF.out]; exact HR1.out, HB1.out⟩
  · have HR1 := Lib.hid (HR.out.below hb1)
    have HB1 := Lib.hid (hb1.mono hB)
    have HF : Hid (l.take j0 = (l.take (j0 + 1)).filter fun x => !p x) := Lib.hid (by
      rw [List.take_succ_eq_append_getElem hj0, List.filter_append, filter_all (fun y hy => by rw [hno y hy]; rfl), List.filter_cons, hpj]
      simp)
    have ej : ((j0 : Int) == -1) = false := by simp
    obtain ⟨b, off, cap', he, hlc', _⟩ := HR1.out.shape (by omega)
    cases he
    have hm63 : maxLen = 9223372036854775807 := rfl
    clear hno hb1 hpj HR
    go_wp2_with fail
    go_loopw [5, 6] (fun s5 s6 wq => ∃ i j : Nat, s5 = .int .i64 i ∧ s6 = .int .i64 j ∧ i < j ∧ j ≤ l.length ∧ (∃ L : List Bl, L.length = l.length ∧ L.take i = (l.take j).filter (fun x => !p x) ∧ L.drop j = l.drop j ∧ Rs wq B (.slice (some ⟨b, off, none⟩) l.length cap) L) ∧ Below B w wq) (fun s5 s6 _ => l.length - (intOf s6).toNat)
    case atStart => exact ⟨j0, j0 + 1, rfl, by go_num, by omega, by omega, ⟨l, rfl, HF.out, rfl, HR1.out⟩, HB1.out⟩
    case round =>
      obtain ⟨i, j, rfl, rfl, hij, hjl, ⟨L, hL, hLt, hLd, hrq⟩, hbq⟩ := hrel
      have HQ := Lib.hid hbq
      have HL := Lib.hid (And.intro hLt hLd)
      rw [← hL] at hrq
      have HRQ := Lib.hid hrq
      have HLL := Lib.hid hL
      clear hbq hLt hLd hrq HR1 HB1
      by_cases hlt : j < l.length
      · have hltI : (j : Int) < (l.length : Int) := by omega
        have hjL : j < L.length := by omega
        have HX : Hid (L[j] = l[j]) := Lib.hid (by
          have h1 := HL.out.2
          rw [List.drop_eq_getElem_cons hjL, List.drop_eq_getElem_cons hlt] at h1
          exact (List.cons.inj h1).1)
        have HE := Lib.hid (HRQ.out.range hjL)
        rw [HX.out] at HE
        have HW2 : Hid (Below wr.heap.size wr (wr.alloc (.cells (arr l[j]) (RowT.T Bl)))) := Lib.hid (by go_grown)
        have HC := Lib.hid (HP.out.says (wr.alloc (.cells (arr l[j]) (RowT.T Bl))) l[j] (HQ.out.trans (HW2.out.mono (Nat.le_trans hB HQ.out.size))))
        have HTK : Hid ((l.take (j + 1)).filter (fun x => !p x) = (l.take j).filter (fun x => !p x) ++ if p l[j] = true then [] else [l[j]]) := Lib.hid (by
          rw [List.take_succ_eq_append_getElem hlt, List.filter_append, List.filter_cons]
          cases p l[j] <;> simp)
        cases hpx : p l[j] with
        | true =>
          rw [hpx] at HC HTK
          clear hpx
          go_wp2_with (first
            | (refine rw_put (α := Bl) _ 7 (.tmp 25) rfl rfl rfl rfl rfl rfl l[j] rfl rfl ?_)
            | (refine rw_load (α := Bl) rfl (.tmp 24) rfl b (off + j * 3) rfl l[j] HE.out ?_)
            | (refine rw_load (α := Bl) rfl (.tmp 7) rfl wr.heap.size 0 rfl l[j] (range_row (heap_alloc_new _ _)) ?_)
            | (go_at_fn g; refine HC.out.mono ?_; rintro e w' ⟨rfl, hbw⟩; have HBW := Lib.hid (HW2.out.trans (hbw.mono HW2.out.size)); clear hbw))
          go_roundw
          case rel => exact ⟨i, j + 1, rfl, by go_num, by omega, by omega, ⟨L, HLL.out, by rw [HTK.out]; simpa using HL.out.1, by have := congrArg (List.drop 1) HL.out.2; simpa [List.drop_drop] using this, by rw [← HLL.out]; exact HRQ.out.below HBW.out⟩, HQ.out.trans (HBW.out.mono (Nat.le_trans hB HQ.out.size))⟩
          case measure => simp [intOf]; omega
        | false =>
          rw [hpx] at HC HTK
          clear hpx
          have hiI : (i : Int) < (l.length : Int) := by omega
          go_wp2_with (first
            | (refine rw_put (α := Bl) _ 7 (.tmp 25) rfl rfl rfl rfl rfl rfl l[j] rfl rfl ?_)
            | (refine rw_load (α := Bl) rfl (.tmp 24) rfl b (off + j * 3) rfl l[j] HE.out ?_)
            | (refine rw_load (α := Bl) rfl (.tmp 7) rfl wr.heap.size 0 rfl l[j] (range_row (heap_alloc_new _ _)) ?_)
            | (go_at_fn g; refine HC.out.mono ?_; rintro e w' ⟨rfl, hbw⟩; have HBW := Lib.hid (HW2.out.trans (hbw.mono HW2.out.size)); have HX7 := Lib.hid ((hbw.block _ (by rw [alloc_size]; omega)).trans (heap_alloc_new wr _)); have HRW := Lib.hid (HRQ.out.below HBW.out); clear hbw)
            | (refine rw_load (α := Bl) rfl (.tmp 7) rfl wr.heap.size 0 rfl l[j] (range_row HX7.out) ?_)
            | (refine rw_set (α := Bl) rfl (.tmp 33) (.tmp 32) rfl HRW.out (j := i) (by omega) l[j] rfl rfl ?_; intro w3 h3 hg3 hs3; have HR3 := Lib.hid h3; have HB3 := Lib.hid ((HQ.out.trans (HBW.out.mono (Nat.le_trans hB HQ.out.size))).grown hg3 (Nat.le_trans hB (HQ.out.trans (HBW.out.mono (Nat.le_trans hB HQ.out.size))).size) (fun k hk => by cases hk; exact HRQ.out.ge b rfl)); clear h3 hg3 hs3))
          go_roundw
          case rel => exact ⟨i + 1, j + 1, by go_num, by go_num, by omega, by omega, ⟨L.set i l[j], by rw [List.length_set]; exact HLL.out, by
              rw [HTK.out, if_neg (by simp), ← HL.out.1, List.take_succ_eq_append_getElem (by rw [List.length_set]; omega), List.getElem_set_self, List.take_set_of_le (Nat.le_refl _)], by
              rw [List.drop_set_of_lt (by omega)]
              have := congrArg (List.drop 1) HL.out.2
              simpa [List.drop_drop] using this, by rw [← HLL.out]; exact HR3.out⟩, HB3.out⟩
          case measure => simp [intOf]; omega
      · have hltI : ¬ (j : Int) < (l.length : Int) := by omega
        obtain rfl : j = l.length := by omega
        have hic : ¬ cap = i := by omega
        have HFL : Hid (L.take i = l.filter fun x => !p x) := Lib.hid (by rw [HL.out.1, List.take_length])
        have HRZ := HRQ.out
        rw [HLL.out] at HRZ
        have HLX := Lib.hid HRZ
        clear HRZ
        go_wp2_with (refine rw_clear (α := Bl) rfl (.tmp 38) rfl HRQ.out (i := i) (c' := cap - i) (by omega) (by rw [HLL.out]; rfl) ?_; intro w3 h3 hg3 hs3; have HR3 := Lib.hid h3; have HB3 := Lib.hid (HQ.out.grown hg3 (Nat.le_trans hB HQ.out.size) (fun k hk => by cases hk; exact HRQ.out.ge b rfl)); clear h3 hg3 hs3)
        go_ret
        exact ⟨_, rfl, by rw [← HFL.out]; exact HR3.out, HB3.out⟩
end Go.Proofs.YtokhnbdhcehonaaGreat
