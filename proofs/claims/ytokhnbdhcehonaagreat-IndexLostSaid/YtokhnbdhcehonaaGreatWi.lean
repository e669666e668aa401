/- index: index.with (printed by gen_bs.py off its template). -/
import Derived.Test.YtokhnbdhcehonaaGreatWiBase
set_option linter.unusedSimpArgs false
set_option linter.unusedVariables false
namespace Go.Proofs.YtokhnbdhcehonaaGreat
open Go Go.RowKit Row
set_option maxRecDepth 100000
set_option maxHeartbeats 16000000 in
theorem wi_Hd {l : List Hd} {v : Value} {B : Nat} {w : World} (x : Hd) (hs : Srt kH lH l) (h : Rs w B v l) (hlen : l.length ≤ 999) :
    Calls Tryz.prog 114 #[v, .agg (arr x), .func (.func 40) #[] #[]] w fun e w' => ∃ v', e = .returned v' ∧ Rs w' w.heap.size v' (put kH lH l x) ∧ Below w.heap.size w w' := by
  obtain ⟨A, cap, hv, hlc, hcap⟩ := h.any
  subst hv
  obtain ⟨W, hW⟩ : ∃ W, W = w.alloc (.cells (arr x) 40) := ⟨_, rfl⟩
  have hb0 : Below w.heap.size w W := by rw [hW]; go_grown
  have hr := h.below hb0
  have HB := Lib.hid hb0
  have HX : Hid (W.heap[w.heap.size]? = some (.cells (arr x) 40)) := Lib.hid (by rw [hW]; exact heap_alloc_new _ _)
  have HBS := Lib.hid (bs_Hd x hs hr)
  have HS := Lib.hid hs
  have HR := Lib.hid hr
  have HW := Lib.hid hW
  clear hs hr hW h hb0
  go_enter Tryz.func114, Tryz.ntmps114
  go_wp2_with (refine rw_load (α := Hd) rfl (.tmp 4) rfl w.heap.size 0 rfl x (range_row (heap_alloc_new _ _)) ?_)
  rw [← HW.out]
  refine HBS.out.mono ?_
  rintro e w1 ⟨i, rfl, hcut, hb1⟩
  have HC := Lib.hid hcut
  have HX1 := Lib.hid ((hb1.block _ (heap_lt HX.out)).trans HX.out)
  have HB1 := Lib.hid (HB.out.trans (hb1.mono HB.out.size))
  have HCL := Lib.hid (cl_Hd (HR.out.below hb1) (by omega))
  have HF := Lib.hid (HC.out.findEq lH_lin HS.out)
  clear hb1 hcut HBS HX HR
  by_cases hfd : ∃ hi : i < l.length, kH l[i] = kH x
  · obtain ⟨hi, hk⟩ := hfd
    have hf : (find kH l (kH x)).isSome = true := by rw [HF.out, dif_pos hi, if_pos hk]; rfl
    rw [hf]
    have HP := Lib.hid (HC.out.put_hit lH_lin HS.out hi hk)
    clear hf hk
    go_wp2_with fail
    refine HCL.out.mono ?_
    rintro e w2 ⟨v2, rfl, hr2, hb2⟩
    obtain ⟨b, off, cap2, hv2, hlc2, _⟩ := hr2.shape (by omega)
    subst hv2
    have HR2 := Lib.hid hr2
    have HX2 := Lib.hid ((hb2.block _ (heap_lt HX1.out)).trans HX1.out)
    have HB2 := Lib.hid (HB1.out.trans (hb2.mono HB1.out.size))
    have hiI : (i : Int) < (l.length : Int) := by omega
    clear hr2 hb2
    go_wp2_with (first
      | (refine rw_load (α := Hd) rfl (.tmp 4) rfl w.heap.size 0 rfl x (range_row HX2.out) ?_)
      | (refine rw_set (α := Hd) rfl (.tmp 23) (.tmp 22) rfl HR2.out (j := i) hi x rfl rfl ?_; intro w3 h3 hg3 hs3; have HR3 := Lib.hid h3; have HB3 := Lib.hid (HB2.out.grown hg3 HB2.out.size (fun k hk => by cases hk; exact Nat.le_trans HB1.out.size (HR2.out.ge b rfl))); clear h3 hg3 hs3))
    go_ret
    refine ⟨_, rfl, ?_, HB3.out⟩
    rw [HP.out]
    show Sl _ _ _ _ _ _ _
    rw [List.length_set]
    have := HR3.out.mono HB1.out.size
    unfold Rs at this
    rw [List.length_set] at this
    exact this
  · have hno : ∀ y ∈ l, kH y ≠ kH x := fun y hy he => by
      obtain ⟨hi, rfl⟩ := HC.out.there lH_lin HS.out hy he
      exact hfd ⟨hi, he⟩
    have hf : (find kH l (kH x)).isSome = false := by rw [find_none.2 hno]; rfl
    rw [hf]
    have HP := Lib.hid (HC.out.put_miss lH_lin hno)
    clear hf hno hfd
    go_wp2_with fail
    refine HCL.out.mono ?_
    rintro e w2 ⟨v2, rfl, hr2, hb2⟩
    have HX2 := Lib.hid ((hb2.block _ (heap_lt HX1.out)).trans HX1.out)
    have HB2 := Lib.hid (HB1.out.trans (hb2.mono HB1.out.size))
    have HBX : Hid (Below w2.heap.size w2 (w2.alloc (.cells (arr x) 40))) := Lib.hid (by go_grown)
    have HIN := Lib.hid (in_Hd (w := w2.alloc (.cells (arr x) 40)) (vb := w2.heap.size) x HC.out.le (by omega) (Nat.le_trans hb2.size HBX.out.size) (hr2.below HBX.out) (heap_alloc_new _ _) (fun h => absurd (hr2.lt _ h) (Nat.lt_irrefl _)))
    clear hr2 hb2
    have hsz3 : (cells x).length = 3 := Row.len x
    go_wp2_with (first
      | (refine rw_load (α := Hd) rfl (.tmp 4) rfl w.heap.size 0 rfl x (range_row HX2.out) ?_)
      | (refine rw_lit1 (α := Hd) (by decide) rfl (.tmp 27) rfl x rfl ?_))
    refine HIN.out.mono ?_
    rintro e w3 ⟨v3, rfl, hr3, hb3⟩
    have HR3 := Lib.hid hr3
    have HB3 := Lib.hid ((HB2.out.trans (HBX.out.mono HB2.out.size)).trans (hb3.mono HB1.out.size))
    clear hr3 hb3
    go_wp2_with fail
    go_ret
    exact ⟨_, rfl, by rw [HP.out]; exact HR3.out.mono HB1.out.size, HB3.out⟩
set_option maxHeartbeats 16000000 in
theorem wi_Fl {l : List Fl} {v : Value} {B : Nat} {w : World} (x : Fl) (hs : Srt kF lF l) (h : Rs w B v l) (hlen : l.length ≤ 999) :
    Calls Tryz.prog 115 #[v, .agg (arr x), .func (.func 43) #[] #[]] w fun e w' => ∃ v', e = .returned v' ∧ Rs w' w.heap.size v' (put kF lF l x) ∧ Below w.heap.size w w' := by
  obtain ⟨A, cap, hv, hlc, hcap⟩ := h.any
  subst hv
  obtain ⟨W, hW⟩ : ∃ W, W = w.alloc (.cells (arr x) 50) := ⟨_, rfl⟩
  have hb0 : Below w.heap.size w W := by rw [hW]; go_grown
  have hr := h.below hb0
  have HB := Lib.hid hb0
  have HX : Hid (W.heap[w.heap.size]? = some (.cells (arr x) 50)) := Lib.hid (by rw [hW]; exact heap_alloc_new _ _)
  have HBS := Lib.hid (bs_Fl x hs hr)
  have HS := Lib.hid hs
  have HR := Lib.hid hr
  have HW := Lib.hid hW
  clear hs hr hW h hb0
  go_enter Tryz.func115, Tryz.ntmps115
  go_wp2_with (refine rw_load (α := Fl) rfl (.tmp 4) rfl w.heap.size 0 rfl x (range_row (heap_alloc_new _ _)) ?_)
  rw [← HW.out]
  refine HBS.out.mono ?_
  rintro e w1 ⟨i, rfl, hcut, hb1⟩
  have HC := Lib.hid hcut
  have HX1 := Lib.hid ((hb1.block _ (heap_lt HX.out)).trans HX.out)
  have HB1 := Lib.hid (HB.out.trans (hb1.mono HB.out.size))
  have HCL := Lib.hid (cl_Fl (HR.out.below hb1) (by omega))
  have HF := Lib.hid (HC.out.findEq lF_lin HS.out)
  clear hb1 hcut HBS HX HR
  by_cases hfd : ∃ hi : i < l.length, kF l[i] = kF x
  · obtain ⟨hi, hk⟩ := hfd
    have hf : (find kF l (kF x)).isSome = true := by rw [HF.out, dif_pos hi, if_pos hk]; rfl
    rw [hf]
    have HP := Lib.hid (HC.out.put_hit lF_lin HS.out hi hk)
    clear hf hk
    go_wp2_with fail
    refine HCL.out.mono ?_
    rintro e w2 ⟨v2, rfl, hr2, hb2⟩
    obtain ⟨b, off, cap2, hv2, hlc2, _⟩ := hr2.shape (by omega)
    subst hv2
    have HR2 := Lib.hid hr2
    have HX2 := Lib.hid ((hb2.block _ (heap_lt HX1.out)).trans HX1.out)
    have HB2 := Lib.hid (HB1.out.trans (hb2.mono HB1.out.size))
    have hiI : (i : Int) < (l.length : Int) := by omega
    clear hr2 hb2
    go_wp2_with (first
      | (refine rw_load (α := Fl) rfl (.tmp 4) rfl w.heap.size 0 rfl x (range_row HX2.out) ?_)
      | (refine rw_set (α := Fl) rfl (.tmp 23) (.tmp 22) rfl HR2.out (j := i) hi x rfl rfl ?_; intro w3 h3 hg3 hs3; have HR3 := Lib.hid h3; have HB3 := Lib.hid (HB2.out.grown hg3 HB2.out.size (fun k hk => by cases hk; exact Nat.le_trans HB1.out.size (HR2.out.ge b rfl))); clear h3 hg3 hs3))
    go_ret
    refine ⟨_, rfl, ?_, HB3.out⟩
    rw [HP.out]
    show Sl _ _ _ _ _ _ _
    rw [List.length_set]
    have := HR3.out.mono HB1.out.size
    unfold Rs at this
    rw [List.length_set] at this
    exact this
  · have hno : ∀ y ∈ l, kF y ≠ kF x := fun y hy he => by
      obtain ⟨hi, rfl⟩ := HC.out.there lF_lin HS.out hy he
      exact hfd ⟨hi, he⟩
    have hf : (find kF l (kF x)).isSome = false := by rw [find_none.2 hno]; rfl
    rw [hf]
    have HP := Lib.hid (HC.out.put_miss lF_lin hno)
    clear hf hno hfd
    go_wp2_with fail
    refine HCL.out.mono ?_
    rintro e w2 ⟨v2, rfl, hr2, hb2⟩
    have HX2 := Lib.hid ((hb2.block _ (heap_lt HX1.out)).trans HX1.out)
    have HB2 := Lib.hid (HB1.out.trans (hb2.mono HB1.out.size))
    have HBX : Hid (Below w2.heap.size w2 (w2.alloc (.cells (arr x) 50))) := Lib.hid (by go_grown)
    have HIN := Lib.hid (in_Fl (w := w2.alloc (.cells (arr x) 50)) (vb := w2.heap.size) x HC.out.le (by omega) (Nat.le_trans hb2.size HBX.out.size) (hr2.below HBX.out) (heap_alloc_new _ _) (fun h => absurd (hr2.lt _ h) (Nat.lt_irrefl _)))
    clear hr2 hb2
    have hsz3 : (cells x).length = 11 := Row.len x
    go_wp2_with (first
      | (refine rw_load (α := Fl) rfl (.tmp 4) rfl w.heap.size 0 rfl x (range_row HX2.out) ?_)
      | (refine rw_lit1 (α := Fl) (by decide) rfl (.tmp 27) rfl x rfl ?_))
    refine HIN.out.mono ?_
    rintro e w3 ⟨v3, rfl, hr3, hb3⟩
    have HR3 := Lib.hid hr3
    have HB3 := Lib.hid ((HB2.out.trans (HBX.out.mono HB2.out.size)).trans (hb3.mono HB1.out.size))
    clear hr3 hb3
    go_wp2_with fail
    go_ret
    exact ⟨_, rfl, by rw [HP.out]; exact HR3.out.mono HB1.out.size, HB3.out⟩
set_option maxHeartbeats 16000000 in
theorem wi_Nm {l : List Nm} {v : Value} {B : Nat} {w : World} (x : Nm) (hs : Srt kN lN l) (h : Rs w B v l) (hlen : l.length ≤ 999) :
    Calls Tryz.prog 119 #[v, .agg (arr x), .func (.func 45) #[] #[]] w fun e w' => ∃ v', e = .returned v' ∧ Rs w' w.heap.size v' (put kN lN l x) ∧ Below w.heap.size w w' := by
  obtain ⟨A, cap, hv, hlc, hcap⟩ := h.any
  subst hv
  obtain ⟨W, hW⟩ : ∃ W, W = w.alloc (.cells (arr x) 54) := ⟨_, rfl⟩
  have hb0 : Below w.heap.size w W := by rw [hW]; go_grown
  have hr := h.below hb0
  have HB := Lib.hid hb0
  have HX : Hid (W.heap[w.heap.size]? = some (.cells (arr x) 54)) := Lib.hid (by rw [hW]; exact heap_alloc_new _ _)
  have HBS := Lib.hid (bs_Nm x hs hr)
  have HS := Lib.hid hs
  have HR := Lib.hid hr
  have HW := Lib.hid hW
  clear hs hr hW h hb0
  go_enter Tryz.func119, Tryz.ntmps119
  go_wp2_with (refine rw_load (α := Nm) rfl (.tmp 4) rfl w.heap.size 0 rfl x (range_row (heap_alloc_new _ _)) ?_)
  rw [← HW.out]
  refine HBS.out.mono ?_
  rintro e w1 ⟨i, rfl, hcut, hb1⟩
  have HC := Lib.hid hcut
  have HX1 := Lib.hid ((hb1.block _ (heap_lt HX.out)).trans HX.out)
  have HB1 := Lib.hid (HB.out.trans (hb1.mono HB.out.size))
  have HCL := Lib.hid (cl_Nm (HR.out.below hb1) (by omega))
  have HF := Lib.hid (HC.out.findEq lN_lin HS.out)
  clear hb1 hcut HBS HX HR
  by_cases hfd : ∃ hi : i < l.length, kN l[i] = kN x
  · obtain ⟨hi, hk⟩ := hfd
    have hf : (find kN l (kN x)).isSome = true := by rw [HF.out, dif_pos hi, if_pos hk]; rfl
    rw [hf]
    have HP := Lib.hid (HC.out.put_hit lN_lin HS.out hi hk)
    clear hf hk
    go_wp2_with fail
    refine HCL.out.mono ?_
    rintro e w2 ⟨v2, rfl, hr2, hb2⟩
    obtain ⟨b, off, cap2, hv2, hlc2, _⟩ := hr2.shape (by omega)
    subst hv2
    have HR2 := Lib.hid hr2
    have HX2 := Lib.hid ((hb2.block _ (heap_lt HX1.out)).trans HX1.out)
    have HB2 := Lib.hid (HB1.out.trans (hb2.mono HB1.out.size))
    have hiI : (i : Int) < (l.length : Int) := by omega
    clear hr2 hb2
    go_wp2_with (first
      | (refine rw_load (α := Nm) rfl (.tmp 4) rfl w.heap.size 0 rfl x (range_row HX2.out) ?_)
      | (refine rw_set (α := Nm) rfl (.tmp 23) (.tmp 22) rfl HR2.out (j := i) hi x rfl rfl ?_; intro w3 h3 hg3 hs3; have HR3 := Lib.hid h3; have HB3 := Lib.hid (HB2.out.grown hg3 HB2.out.size (fun k hk => by cases hk; exact Nat.le_trans HB1.out.size (HR2.out.ge b rfl))); clear h3 hg3 hs3))
    go_ret
    refine ⟨_, rfl, ?_, HB3.out⟩
    rw [HP.out]
    show Sl _ _ _ _ _ _ _
    rw [List.length_set]
    have := HR3.out.mono HB1.out.size
    unfold Rs at this
    rw [List.length_set] at this
    exact this
  · have hno : ∀ y ∈ l, kN y ≠ kN x := fun y hy he => by
      obtain ⟨hi, rfl⟩ := HC.out.there lN_lin HS.out hy he
      exact hfd ⟨hi, he⟩
    have hf : (find kN l (kN x)).isSome = false := by rw [find_none.2 hno]; rfl
    rw [hf]
    have HP := Lib.hid (HC.out.put_miss lN_lin hno)
    clear hf hno hfd
    go_wp2_with fail
    refine HCL.out.mono ?_
    rintro e w2 ⟨v2, rfl, hr2, hb2⟩
    have HX2 := Lib.hid ((hb2.block _ (heap_lt HX1.out)).trans HX1.out)
    have HB2 := Lib.hid (HB1.out.trans (hb2.mono HB1.out.size))
    have HBX : Hid (Below w2.heap.size w2 (w2.alloc (.cells (arr x) 54))) := Lib.hid (by go_grown)
    have HIN := Lib.hid (in_Nm (w := w2.alloc (.cells (arr x) 54)) (vb := w2.heap.size) x HC.out.le (by omega) (Nat.le_trans hb2.size HBX.out.size) (hr2.below HBX.out) (heap_alloc_new _ _) (fun h => absurd (hr2.lt _ h) (Nat.lt_irrefl _)))
    clear hr2 hb2
    have hsz3 : (cells x).length = 3 := Row.len x
    go_wp2_with (first
      | (refine rw_load (α := Nm) rfl (.tmp 4) rfl w.heap.size 0 rfl x (range_row HX2.out) ?_)
      | (refine rw_lit1 (α := Nm) (by decide) rfl (.tmp 27) rfl x rfl ?_))
    refine HIN.out.mono ?_
    rintro e w3 ⟨v3, rfl, hr3, hb3⟩
    have HR3 := Lib.hid hr3
    have HB3 := Lib.hid ((HB2.out.trans (HBX.out.mono HB2.out.size)).trans (hb3.mono HB1.out.size))
    clear hr3 hb3
    go_wp2_with fail
    go_ret
    exact ⟨_, rfl, by rw [HP.out]; exact HR3.out.mono HB1.out.size, HB3.out⟩
set_option maxHeartbeats 16000000 in
theorem wi_Bl {l : List Bl} {v : Value} {B : Nat} {w : World} (x : Bl) (hs : Srt kB lB l) (h : Rs w B v l) (hlen : l.length ≤ 999) :
    Calls Tryz.prog 111 #[v, .agg (arr x), .func (.func 47) #[] #[]] w fun e w' => ∃ v', e = .returned v' ∧ Rs w' w.heap.size v' (put kB lB l x) ∧ Below w.heap.size w w' := by
  obtain ⟨A, cap, hv, hlc, hcap⟩ := h.any
  subst hv
  obtain ⟨W, hW⟩ : ∃ W, W = w.alloc (.cells (arr x) 59) := ⟨_, rfl⟩
  have hb0 : Below w.heap.size w W := by rw [hW]; go_grown
  have hr := h.below hb0
  have HB := Lib.hid hb0
  have HX : Hid (W.heap[w.heap.size]? = some (.cells (arr x) 59)) := Lib.hid (by rw [hW]; exact heap_alloc_new _ _)
  have HBS := Lib.hid (bs_Bl x hs hr)
  have HS := Lib.hid hs
  have HR := Lib.hid hr
  have HW := Lib.hid hW
  clear hs hr hW h hb0
  go_enter Tryz.func111, Tryz.ntmps111
  go_wp2_with (refine rw_load (α := Bl) rfl (.tmp 4) rfl w.heap.size 0 rfl x (range_row (heap_alloc_new _ _)) ?_)
  rw [← HW.out]
  refine HBS.out.mono ?_
  rintro e w1 ⟨i, rfl, hcut, hb1⟩
  have HC := Lib.hid hcut
  have HX1 := Lib.hid ((hb1.block _ (heap_lt HX.out)).trans HX.out)
  have HB1 := Lib.hid (HB.out.trans (hb1.mono HB.out.size))
  have HCL := Lib.hid (cl_Bl (HR.out.below hb1) (by omega))
  have HF := Lib.hid (HC.out.findEq lB_lin HS.out)
  clear hb1 hcut HBS HX HR
  by_cases hfd : ∃ hi : i < l.length, kB l[i] = kB x
  · obtain ⟨hi, hk⟩ := hfd
    have hf : (find kB l (kB x)).isSome = true := by rw [HF.out, dif_pos hi, if_pos hk]; rfl
    rw [hf]
    have HP := Lib.hid (HC.out.put_hit lB_lin HS.out hi hk)
    clear hf hk
    go_wp2_with fail
    refine HCL.out.mono ?_
    rintro e w2 ⟨v2, rfl, hr2, hb2⟩
    obtain ⟨b, off, cap2, hv2, hlc2, _⟩ := hr2.shape (by omega)
    subst hv2
    have HR2 := Lib.hid hr2
    have HX2 := Lib.hid ((hb2.block _ (heap_lt HX1.out)).trans HX1.out)
    have HB2 := Lib.hid (HB1.out.trans (hb2.mono HB1.out.size))
    have hiI : (i : Int) < (l.length : Int) := by omega
    clear hr2 hb2
    go_wp2_with (first
      | (refine rw_load (α := Bl) rfl (.tmp 4) rfl w.heap.size 0 rfl x (range_row HX2.out) ?_)
      | (refine rw_set (α := Bl) rfl (.tmp 23) (.tmp 22) rfl HR2.out (j := i) hi x rfl rfl ?_; intro w3 h3 hg3 hs3; have HR3 := Lib.hid h3; have HB3 := Lib.hid (HB2.out.grown hg3 HB2.out.size (fun k hk => by cases hk; exact Nat.le_trans HB1.out.size (HR2.out.ge b rfl))); clear h3 hg3 hs3))
    go_ret
    refine ⟨_, rfl, ?_, HB3.out⟩
    rw [HP.out]
    show Sl _ _ _ _ _ _ _
    rw [List.length_set]
    have := HR3.out.mono HB1.out.size
    unfold Rs at this
    rw [List.length_set] at this
    exact this
  · have hno : ∀ y ∈ l, kB y ≠ kB x := fun y hy he => by
      obtain ⟨hi, rfl⟩ := HC.out.there lB_lin HS.out hy he
      exact hfd ⟨hi, he⟩
    have hf : (find kB l (kB x)).isSome = false := by rw [find_none.2 hno]; rfl
    rw [hf]
    have HP := Lib.hid (HC.out.put_miss lB_lin hno)
    clear hf hno hfd
    go_wp2_with fail
    refine HCL.out.mono ?_
    rintro e w2 ⟨v2, rfl, hr2, hb2⟩
    have HX2 := Lib.hid ((hb2.block _ (heap_lt HX1.out)).trans HX1.out)
    have HB2 := Lib.hid (HB1.out.trans (hb2.mono HB1.out.size))
    have HBX : Hid (Below w2.heap.size w2 (w2.alloc (.cells (arr x) 59))) := Lib.hid (by go_grown)
    have HIN := Lib.hid (in_Bl (w := w2.alloc (.cells (arr x) 59)) (vb := w2.heap.size) x HC.out.le (by omega) (Nat.le_trans hb2.size HBX.out.size) (hr2.below HBX.out) (heap_alloc_new _ _) (fun h => absurd (hr2.lt _ h) (Nat.lt_irrefl _)))
    clear hr2 hb2
    have hsz3 : (cells x).length = 3 := Row.len x
    go_wp2_with (first
      | (refine rw_load (α := Bl) rfl (.tmp 4) rfl w.heap.size 0 rfl x (range_row HX2.out) ?_)
      | (refine rw_lit1 (α := Bl) (by decide) rfl (.tmp 27) rfl x rfl ?_))
    refine HIN.out.mono ?_
    rintro e w3 ⟨v3, rfl, hr3, hb3⟩
    have HR3 := Lib.hid hr3
    have HB3 := Lib.hid ((HB2.out.trans (HBX.out.mono HB2.out.size)).trans (hb3.mono HB1.out.size))
    clear hr3 hb3
    go_wp2_with fail
    go_ret
    exact ⟨_, rfl, by rw [HP.out]; exact HR3.out.mono HB1.out.size, HB3.out⟩
end Go.Proofs.YtokhnbdhcehonaaGreat
