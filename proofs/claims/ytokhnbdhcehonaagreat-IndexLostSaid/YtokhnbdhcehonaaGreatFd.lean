/- index: index.find (printed by gen_bs.py off its template). -/
import Derived.Test.YtokhnbdhcehonaaGreatBs
set_option linter.unusedSimpArgs false
set_option linter.unusedVariables false
namespace Go.Proofs.YtokhnbdhcehonaaGreat
open Go Go.RowKit Row
set_option maxRecDepth 100000
set_option maxHeartbeats 8000000 in
theorem fd_Hd {l : List Hd} {v : Value} {B : Nat} {w : World} (x : Hd) (hs : Srt kH lH l) (h : Rs w B v l) :
    Calls Tryz.prog 39 #[v, .agg (arr x), .func (.func 40) #[] #[]] w fun e w' => e = .returned (.tuple #[.agg (arr ((find kH l (kH x)).getD RowT.z)), .bool (find kH l (kH x)).isSome]) ∧ Below w.heap.size w w' := by
  obtain ⟨r, hfr⟩ : ∃ r, r = find kH l (kH x) := ⟨_, rfl⟩
  have HBS0 := Lib.hid (fun W h => bs_Hd (v := v) (B := B) (w := W) x hs h)
  rw [← hfr] at HBS0 ⊢
  have HFR := Lib.hid hfr
  clear hfr
  obtain ⟨A, cap, rfl, hlc, hcap⟩ := h.any
  obtain ⟨W, hW⟩ : ∃ W, W = ((w.alloc (.cells (arr x) 40)).alloc (.cells (arr (RowT.z : Hd)) (RowT.T Hd))).alloc (.cells (arr (RowT.z : Hd)) (RowT.T Hd)) := ⟨_, rfl⟩
  have hb0 : Below w.heap.size w W := by rw [hW]; go_grown
  have hr := h.below hb0
  have HB := Lib.hid hb0
  have hx : W.heap[w.heap.size]? = some (.cells (arr x) 40) := by rw [hW]; exact heap_old_at (heap_old_at (heap_alloc_new _ _))
  have hz1 : W.heap[w.heap.size + 1]? = some (.cells (arr (RowT.z : Hd)) (RowT.T Hd)) := by rw [hW]; exact heap_old_at (heap_new_at _ _ (alloc_size _ _))
  have hz2 : W.heap[w.heap.size + 2]? = some (.cells (arr (RowT.z : Hd)) (RowT.T Hd)) := by rw [hW]; exact heap_new_at _ _ (by rw [alloc_size, alloc_size])
  have HBS := Lib.hid (HBS0.out W hr)
  clear HBS0
  have HS := Lib.hid hs
  have HR := Lib.hid hr
  have HX := Lib.hid hx
  have HZ := Lib.hid (And.intro hz1 hz2)
  have HW := Lib.hid hW
  clear hs hr hx hW h hz1 hz2 hb0
  go_enter Tryz.func39, Tryz.ntmps39
  go_wp2_with (first | (refine rw_alloc (α := Hd) rfl rfl ?_) | (refine rw_load (α := Hd) rfl (.tmp 4) rfl w.heap.size 0 rfl x (range_row (by have := HW.out; rw [HW.out] at HX; exact HX.out)) ?_))
  rw [← HW.out]
  refine HBS.out.mono ?_
  rintro e w1 ⟨i, rfl, hcut, hb1⟩
  have HC := Lib.hid hcut
  have HX1 := Lib.hid ((hb1.block _ (heap_lt HX.out)).trans HX.out)
  have HZ1 := Lib.hid ((hb1.block _ (heap_lt HZ.out.1)).trans HZ.out.1)
  have HZ2 := Lib.hid ((hb1.block _ (heap_lt HZ.out.2)).trans HZ.out.2)
  have HB1 := Lib.hid (HB.out.trans (hb1.mono HB.out.size))
  have HR1 := Lib.hid (HR.out.below hb1)
  clear hb1 hcut
  cases r with
  | none =>
    go_wp2_with (first
      | (refine rw_load (α := Hd) rfl (.tmp 8) rfl (w.heap.size + 2) 0 rfl RowT.z (range_row HZ2.out) ?_)
      | (refine rw_store (α := Hd) rfl (.tmp 6) (.tmp 20) rfl (w.heap.size + 1) RowT.z _ (arr_size _) rfl rfl HZ1.out ?_; intro w2 hb2 hg2 hs2; have hbl : Below w.heap.size w w2 := HB1.out.grown hg2 HB1.out.size (fun j hj => by cases hj; exact Nat.le_succ _)))
    (try simp only [Exit.inBlock, Exit.then])
    refine bodyPost_ret (res_row (α := Hd) Tryz.results39 _ _ (w.heap.size + 1) RowT.z (.bool false) rfl rfl hb2) rfl ?_
    exact ⟨rfl, hbl⟩
  | some y =>
    have hf := HFR.out.symm
    obtain ⟨hil, hy⟩ := HC.out.there lH_lin HS.out (find_some hf).1 (find_some hf).2
    clear hf
    obtain ⟨b, off, cap', he, _, _⟩ := HR1.out.shape (by omega)
    cases he
    have hrg := HR1.out.range hil
    rw [hy] at hrg
    have HE := Lib.hid hrg
    have hiI : (i : Int) < (l.length : Int) := by omega
    clear hrg hy
    go_wp2_with (first
      | (refine rw_load (α := Hd) rfl (.tmp 23) rfl b (off + i * 3) rfl y HE.out ?_)
      | (refine rw_store (α := Hd) rfl (.tmp 6) (.tmp 24) rfl (w.heap.size + 1) y _ (arr_size _) rfl rfl HZ1.out ?_; intro w2 hb2 hg2 hs2; have hbl : Below w.heap.size w w2 := HB1.out.grown hg2 HB1.out.size (fun j hj => by cases hj; exact Nat.le_succ _)))
    (try simp only [Exit.inBlock, Exit.then])
    refine bodyPost_ret (res_row (α := Hd) Tryz.results39 _ _ (w.heap.size + 1) y (.bool true) rfl rfl hb2) rfl ?_
    exact ⟨rfl, hbl⟩
set_option maxHeartbeats 8000000 in
theorem fd_Fl {l : List Fl} {v : Value} {B : Nat} {w : World} (x : Fl) (hs : Srt kF lF l) (h : Rs w B v l) :
    Calls Tryz.prog 42 #[v, .agg (arr x), .func (.func 43) #[] #[]] w fun e w' => e = .returned (.tuple #[.agg (arr ((find kF l (kF x)).getD RowT.z)), .bool (find kF l (kF x)).isSome]) ∧ Below w.heap.size w w' := by
  obtain ⟨r, hfr⟩ : ∃ r, r = find kF l (kF x) := ⟨_, rfl⟩
  have HBS0 := Lib.hid (fun W h => bs_Fl (v := v) (B := B) (w := W) x hs h)
  rw [← hfr] at HBS0 ⊢
  have HFR := Lib.hid hfr
  clear hfr
  obtain ⟨A, cap, rfl, hlc, hcap⟩ := h.any
  obtain ⟨W, hW⟩ : ∃ W, W = ((w.alloc (.cells (arr x) 50)).alloc (.cells (arr (RowT.z : Fl)) (RowT.T Fl))).alloc (.cells (arr (RowT.z : Fl)) (RowT.T Fl)) := ⟨_, rfl⟩
  have hb0 : Below w.heap.size w W := by rw [hW]; go_grown
  have hr := h.below hb0
  have HB := Lib.hid hb0
  have hx : W.heap[w.heap.size]? = some (.cells (arr x) 50) := by rw [hW]; exact heap_old_at (heap_old_at (heap_alloc_new _ _))
  have hz1 : W.heap[w.heap.size + 1]? = some (.cells (arr (RowT.z : Fl)) (RowT.T Fl)) := by rw [hW]; exact heap_old_at (heap_new_at _ _ (alloc_size _ _))
  have hz2 : W.heap[w.heap.size + 2]? = some (.cells (arr (RowT.z : Fl)) (RowT.T Fl)) := by rw [hW]; exact heap_new_at _ _ (by rw [alloc_size, alloc_size])
  have HBS := Lib.hid (HBS0.out W hr)
  clear HBS0
  have HS := Lib.hid hs
  have HR := Lib.hid hr
  have HX := Lib.hid hx
  have HZ := Lib.hid (And.intro hz1 hz2)
  have HW := Lib.hid hW
  clear hs hr hx hW h hz1 hz2 hb0
  go_enter Tryz.func42, Tryz.ntmps42
  go_wp2_with (first | (refine rw_alloc (α := Fl) rfl rfl ?_) | (refine rw_load (α := Fl) rfl (.tmp 4) rfl w.heap.size 0 rfl x (range_row (by have := HW.out; rw [HW.out] at HX; exact HX.out)) ?_))
  rw [← HW.out]
  refine HBS.out.mono ?_
  rintro e w1 ⟨i, rfl, hcut, hb1⟩
  have HC := Lib.hid hcut
  have HX1 := Lib.hid ((hb1.block _ (heap_lt HX.out)).trans HX.out)
  have HZ1 := Lib.hid ((hb1.block _ (heap_lt HZ.out.1)).trans HZ.out.1)
  have HZ2 := Lib.hid ((hb1.block _ (heap_lt HZ.out.2)).trans HZ.out.2)
  have HB1 := Lib.hid (HB.out.trans (hb1.mono HB.out.size))
  have HR1 := Lib.hid (HR.out.below hb1)
  clear hb1 hcut
  cases r with
  | none =>
    go_wp2_with (first
      | (refine rw_load (α := Fl) rfl (.tmp 8) rfl (w.heap.size + 2) 0 rfl RowT.z (range_row HZ2.out) ?_)
      | (refine rw_store (α := Fl) rfl (.tmp 6) (.tmp 20) rfl (w.heap.size + 1) RowT.z _ (arr_size _) rfl rfl HZ1.out ?_; intro w2 hb2 hg2 hs2; have hbl : Below w.heap.size w w2 := HB1.out.grown hg2 HB1.out.size (fun j hj => by cases hj; exact Nat.le_succ _)))
    (try simp only [Exit.inBlock, Exit.then])
    refine bodyPost_ret (res_row (α := Fl) Tryz.results42 _ _ (w.heap.size + 1) RowT.z (.bool false) rfl rfl hb2) rfl ?_
    exact ⟨rfl, hbl⟩
  | some y =>
    have hf := HFR.out.symm
    obtain ⟨hil, hy⟩ := HC.out.there lF_lin HS.out (find_some hf).1 (find_some hf).2
    clear hf
    obtain ⟨b, off, cap', he, _, _⟩ := HR1.out.shape (by omega)
    cases he
    have hrg := HR1.out.range hil
    rw [hy] at hrg
    have HE := Lib.hid hrg
    have hiI : (i : Int) < (l.length : Int) := by omega
    clear hrg hy
    go_wp2_with (first
      | (refine rw_load (α := Fl) rfl (.tmp 23) rfl b (off + i * 11) rfl y HE.out ?_)
      | (refine rw_store (α := Fl) rfl (.tmp 6) (.tmp 24) rfl (w.heap.size + 1) y _ (arr_size _) rfl rfl HZ1.out ?_; intro w2 hb2 hg2 hs2; have hbl : Below w.heap.size w w2 := HB1.out.grown hg2 HB1.out.size (fun j hj => by cases hj; exact Nat.le_succ _)))
    (try simp only [Exit.inBlock, Exit.then])
    refine bodyPost_ret (res_row (α := Fl) Tryz.results42 _ _ (w.heap.size + 1) y (.bool true) rfl rfl hb2) rfl ?_
    exact ⟨rfl, hbl⟩
set_option maxHeartbeats 8000000 in
theorem fd_Nm {l : List Nm} {v : Value} {B : Nat} {w : World} (x : Nm) (hs : Srt kN lN l) (h : Rs w B v l) :
    Calls Tryz.prog 44 #[v, .agg (arr x), .func (.func 45) #[] #[]] w fun e w' => e = .returned (.tuple #[.agg (arr ((find kN l (kN x)).getD RowT.z)), .bool (find kN l (kN x)).isSome]) ∧ Below w.heap.size w w' := by
  obtain ⟨r, hfr⟩ : ∃ r, r = find kN l (kN x) := ⟨_, rfl⟩
  have HBS0 := Lib.hid (fun W h => bs_Nm (v := v) (B := B) (w := W) x hs h)
  rw [← hfr] at HBS0 ⊢
  have HFR := Lib.hid hfr
  clear hfr
  obtain ⟨A, cap, rfl, hlc, hcap⟩ := h.any
  obtain ⟨W, hW⟩ : ∃ W, W = ((w.alloc (.cells (arr x) 54)).alloc (.cells (arr (RowT.z : Nm)) (RowT.T Nm))).alloc (.cells (arr (RowT.z : Nm)) (RowT.T Nm)) := ⟨_, rfl⟩
  have hb0 : Below w.heap.size w W := by rw [hW]; go_grown
  have hr := h.below hb0
  have HB := Lib.hid hb0
  have hx : W.heap[w.heap.size]? = some (.cells (arr x) 54) := by rw [hW]; exact heap_old_at (heap_old_at (heap_alloc_new _ _))
  have hz1 : W.heap[w.heap.size + 1]? = some (.cells (arr (RowT.z : Nm)) (RowT.T Nm)) := by rw [hW]; exact heap_old_at (heap_new_at _ _ (alloc_size _ _))
  have hz2 : W.heap[w.heap.size + 2]? = some (.cells (arr (RowT.z : Nm)) (RowT.T Nm)) := by rw [hW]; exact heap_new_at _ _ (by rw [alloc_size, alloc_size])
  have HBS := Lib.hid (HBS0.out W hr)
  clear HBS0
  have HS := Lib.hid hs
  have HR := Lib.hid hr
  have HX := Lib.hid hx
  have HZ := Lib.hid (And.intro hz1 hz2)
  have HW := Lib.hid hW
  clear hs hr hx hW h hz1 hz2 hb0
  go_enter Tryz.func44, Tryz.ntmps44
  go_wp2_with (first | (refine rw_alloc (α := Nm) rfl rfl ?_) | (refine rw_load (α := Nm) rfl (.tmp 4) rfl w.heap.size 0 rfl x (range_row (by have := HW.out; rw [HW.out] at HX; exact HX.out)) ?_))
  rw [← HW.out]
  refine HBS.out.mono ?_
  rintro e w1 ⟨i, rfl, hcut, hb1⟩
  have HC := Lib.hid hcut
  have HX1 := Lib.hid ((hb1.block _ (heap_lt HX.out)).trans HX.out)
  have HZ1 := Lib.hid ((hb1.block _ (heap_lt HZ.out.1)).trans HZ.out.1)
  have HZ2 := Lib.hid ((hb1.block _ (heap_lt HZ.out.2)).trans HZ.out.2)
  have HB1 := Lib.hid (HB.out.trans (hb1.mono HB.out.size))
  have HR1 := Lib.hid (HR.out.below hb1)
  clear hb1 hcut
  cases r with
  | none =>
    go_wp2_with (first
      | (refine rw_load (α := Nm) rfl (.tmp 8) rfl (w.heap.size + 2) 0 rfl RowT.z (range_row HZ2.out) ?_)
      | (refine rw_store (α := Nm) rfl (.tmp 6) (.tmp 20) rfl (w.heap.size + 1) RowT.z _ (arr_size _) rfl rfl HZ1.out ?_; intro w2 hb2 hg2 hs2; have hbl : Below w.heap.size w w2 := HB1.out.grown hg2 HB1.out.size (fun j hj => by cases hj; exact Nat.le_succ _)))
    (try simp only [Exit.inBlock, Exit.then])
    refine bodyPost_ret (res_row (α := Nm) Tryz.results44 _ _ (w.heap.size + 1) RowT.z (.bool false) rfl rfl hb2) rfl ?_
    exact ⟨rfl, hbl⟩
  | some y =>
    have hf := HFR.out.symm
    obtain ⟨hil, hy⟩ := HC.out.there lN_lin HS.out (find_some hf).1 (find_some hf).2
    clear hf
    obtain ⟨b, off, cap', he, _, _⟩ := HR1.out.shape (by omega)
    cases he
    have hrg := HR1.out.range hil
    rw [hy] at hrg
    have HE := Lib.hid hrg
    have hiI : (i : Int) < (l.length : Int) := by omega
    clear hrg hy
    go_wp2_with (first
      | (refine rw_load (α := Nm) rfl (.tmp 23) rfl b (off + i * 3) rfl y HE.out ?_)
      | (refine rw_store (α := Nm) rfl (.tmp 6) (.tmp 24) rfl (w.heap.size + 1) y _ (arr_size _) rfl rfl HZ1.out ?_; intro w2 hb2 hg2 hs2; have hbl : Below w.heap.size w w2 := HB1.out.grown hg2 HB1.out.size (fun j hj => by cases hj; exact Nat.le_succ _)))
    (try simp only [Exit.inBlock, Exit.then])
    refine bodyPost_ret (res_row (α := Nm) Tryz.results44 _ _ (w.heap.size + 1) y (.bool true) rfl rfl hb2) rfl ?_
    exact ⟨rfl, hbl⟩
set_option maxHeartbeats 8000000 in
theorem fd_Bl {l : List Bl} {v : Value} {B : Nat} {w : World} (x : Bl) (hs : Srt kB lB l) (h : Rs w B v l) :
    Calls Tryz.prog 46 #[v, .agg (arr x), .func (.func 47) #[] #[]] w fun e w' => e = .returned (.tuple #[.agg (arr ((find kB l (kB x)).getD RowT.z)), .bool (find kB l (kB x)).isSome]) ∧ Below w.heap.size w w' := by
  obtain ⟨r, hfr⟩ : ∃ r, r = find kB l (kB x) := ⟨_, rfl⟩
  have HBS0 := Lib.hid (fun W h => bs_Bl (v := v) (B := B) (w := W) x hs h)
  rw [← hfr] at HBS0 ⊢
  have HFR := Lib.hid hfr
  clear hfr
  obtain ⟨A, cap, rfl, hlc, hcap⟩ := h.any
  obtain ⟨W, hW⟩ : ∃ W, W = ((w.alloc (.cells (arr x) 59)).alloc (.cells (arr (RowT.z : Bl)) (RowT.T Bl))).alloc (.cells (arr (RowT.z : Bl)) (RowT.T Bl)) := ⟨_, rfl⟩
  have hb0 : Below w.heap.size w W := by rw [hW]; go_grown
  have hr := h.below hb0
  have HB := Lib.hid hb0
  have hx : W.heap[w.heap.size]? = some (.cells (arr x) 59) := by rw [hW]; exact heap_old_at (heap_old_at (heap_alloc_new _ _))
  have hz1 : W.heap[w.heap.size + 1]? = some (.cells (arr (RowT.z : Bl)) (RowT.T Bl)) := by rw [hW]; exact heap_old_at (heap_new_at _ _ (alloc_size _ _))
  have hz2 : W.heap[w.heap.size + 2]? = some (.cells (arr (RowT.z : Bl)) (RowT.T Bl)) := by rw [hW]; exact heap_new_at _ _ (by rw [alloc_size, alloc_size])
  have HBS := Lib.hid (HBS0.out W hr)
  clear HBS0
  have HS := Lib.hid hs
  have HR := Lib.hid hr
  have HX := Lib.hid hx
  have HZ := Lib.hid (And.intro hz1 hz2)
  have HW := Lib.hid hW
  clear hs hr hx hW h hz1 hz2 hb0
  go_enter Tryz.func46, Tryz.ntmps46
  go_wp2_with (first | (refine rw_alloc (α := Bl) rfl rfl ?_) | (refine rw_load (α := Bl) rfl (.tmp 4) rfl w.heap.size 0 rfl x (range_row (by have := HW.out; rw [HW.out] at HX; exact HX.out)) ?_))
  rw [← HW.out]
  refine HBS.out.mono ?_
  rintro e w1 ⟨i, rfl, hcut, hb1⟩
  have HC := Lib.hid hcut
  have HX1 := Lib.hid ((hb1.block _ (heap_lt HX.out)).trans HX.out)
  have HZ1 := Lib.hid ((hb1.block _ (heap_lt HZ.out.1)).trans HZ.out.1)
  have HZ2 := Lib.hid ((hb1.block _ (heap_lt HZ.out.2)).trans HZ.out.2)
  have HB1 := Lib.hid (HB.out.trans (hb1.mono HB.out.size))
  have HR1 := Lib.hid (HR.out.below hb1)
  clear hb1 hcut
  cases r with
  | none =>
    go_wp2_with (first
      | (refine rw_load (α := Bl) rfl (.tmp 8) rfl (w.heap.size + 2) 0 rfl RowT.z (range_row HZ2.out) ?_)
      | (refine rw_store (α := Bl) rfl (.tmp 6) (.tmp 20) rfl (w.heap.size + 1) RowT.z _ (arr_size _) rfl rfl HZ1.out ?_; intro w2 hb2 hg2 hs2; have hbl : Below w.heap.size w w2 := HB1.out.grown hg2 HB1.out.size (fun j hj => by cases hj; exact Nat.le_succ _)))
    (try simp only [Exit.inBlock, Exit.then])
    refine bodyPost_ret (res_row (α := Bl) Tryz.results46 _ _ (w.heap.size + 1) RowT.z (.bool false) rfl rfl hb2) rfl ?_
    exact ⟨rfl, hbl⟩
  | some y =>
    have hf := HFR.out.symm
    obtain ⟨hil, hy⟩ := HC.out.there lB_lin HS.out (find_some hf).1 (find_some hf).2
    clear hf
    obtain ⟨b, off, cap', he, _, _⟩ := HR1.out.shape (by omega)
    cases he
    have hrg := HR1.out.range hil
    rw [hy] at hrg
    have HE := Lib.hid hrg
    have hiI : (i : Int) < (l.length : Int) := by omega
    clear hrg hy
    go_wp2_with (first
      | (refine rw_load (α := Bl) rfl (.tmp 23) rfl b (off + i * 3) rfl y HE.out ?_)
      | (refine rw_store (α := Bl) rfl (.tmp 6) (.tmp 24) rfl (w.heap.size + 1) y _ (arr_size _) rfl rfl HZ1.out ?_; intro w2 hb2 hg2 hs2; have hbl : Below w.heap.size w w2 := HB1.out.grown hg2 HB1.out.size (fun j hj => by cases hj; exact Nat.le_succ _)))
    (try simp only [Exit.inBlock, Exit.then])
    refine bodyPost_ret (res_row (α := Bl) Tryz.results46 _ _ (w.heap.size + 1) y (.bool true) rfl rfl hb2) rfl ?_
    exact ⟨rfl, hbl⟩
end Go.Proofs.YtokhnbdhcehonaaGreat
