/- index: what only reads a cache, over slices that are only known to read as rows (printed by gen_rd.py off the texts on caches of the program's own). -/
import Derived.Test.YtokhnbdhcehonaaGreatIck
import Derived.Test.YtokhnbdhcehonaaGreatRo
import Derived.Test.YtokhnbdhcehonaaGreatBase
set_option linter.unusedSimpArgs false
set_option linter.unusedVariables false
namespace Go.Proofs.YtokhnbdhcehonaaGreat.O
open Go Go.RowKit Row Go.Maps Go.WideShapes Go.ChangeMaps Go.WideMaps Go.MapKept
set_option maxRecDepth 100000
set_option linter.unusedSectionVars false
def Rs {α : Type} [Row α] (w : World) (_B : Nat) (v : Value) (l : List α) : Prop := Ro w v l
section
variable {α : Type} [Row α] {w w' : World} {B B' : Nat} {v : Value} {l : List α}
theorem Rs.any (h : Rs w B v l) : ∃ A cap, v = .slice A l.length cap ∧ l.length ≤ cap ∧ cap ≤ maxLen := Ro.any h
theorem Rs.below (h : Rs w B v l) (hb : Below w.heap.size w w') : Rs w' B v l := Ro.below h hb
theorem Rs.mono (h : Rs w B v l) (_hB : B' ≤ B) : Rs w B' v l := h
theorem Rs.shape (h : Rs w B v l) (hp : 0 < l.length) : ∃ b off cap, v = .slice (some ⟨b, off, none⟩) l.length cap ∧ l.length ≤ cap ∧ cap ≤ maxLen := by
  obtain ⟨A, cap, hv, h1, h2⟩ := h.any
  obtain ⟨b, off, cap', he, _, _⟩ := Ro.at_ h hp
  rw [hv] at he
  injection he with e1 e2 e3
  exact ⟨b, off, cap, by rw [hv, e1], h1, h2⟩
theorem Rs.lt2 (h : Rs w B v l) (hp : 0 < l.length) : ∀ k, v.ownBlock = some k → k < w.heap.size := fun k hk => by
  obtain ⟨b, off, cap', he, hlt, _⟩ := Ro.at_ h hp
  rw [he] at hk
  simp [Value.ownBlock] at hk
  omega
theorem Rs.range {b off cap : Nat} (h : Rs w B (.slice (some ⟨b, off, none⟩) l.length cap) l) {j : Nat} (hj : j < l.length) : w.rangeAt b (off + j * n α) (cells l[j]) := by
  obtain ⟨b', off', cap', he, _, hr⟩ := Ro.at_ h (by omega)
  injection he with e1 e2 e3
  injection e1 with e1
  injection e1 with e4 e5
  subst e4 e5
  exact hr j hj
end
set_option maxHeartbeats 8000000 in
theorem bs_Fl {l : List Fl} {v : Value} {B : Nat} {w : World} (x : Fl) (hs : Srt kF lF l) (h : Rs w B v l) :
    Calls Tryz.prog 92 #[v, .agg (arr x), .func (.func 43) #[] #[]] w fun e w' => ∃ i : Nat, e = .returned (.tuple #[.int .i64 i, .bool (find kF l (kF x)).isSome]) ∧ Cut kF lF l (kF x) i ∧ Below w.heap.size w w' := by
  obtain ⟨A, cap, rfl, hlc, hcap⟩ := h.any
  obtain ⟨r, hfr⟩ : ∃ r, r = (find kF l (kF x)).isSome := ⟨_, rfl⟩
  rw [← hfr]
  have HFR := Lib.hid hfr
  clear hfr
  obtain ⟨W, hW⟩ : ∃ W, W = w.alloc (.cells (arr x) 50) := ⟨_, rfl⟩
  have hr : Rs W B (.slice A l.length cap) l := by rw [hW]; exact h.below (by go_grown)
  have hx : W.heap[w.heap.size]? = some (.cells (arr x) 50) := by rw [hW]; exact heap_alloc_new _ _
  have HB : Hid (Below w.heap.size w W) := Lib.hid (by rw [hW]; go_grown)
  have HS := Lib.hid hs
  have HR := Lib.hid hr
  have HX := Lib.hid hx
  have HW := Lib.hid hW
  clear hs hr hx hW h
  go_enter Tryz.func92, Tryz.ntmps92
  go_wp2_with fail
  rw [← HW.out]
  go_loopw [9, 10] (fun si sj wq => ∃ i j : Nat, si = .int .i64 i ∧ sj = .int .i64 j ∧ i ≤ j ∧ j ≤ l.length ∧ (∀ y ∈ l.take i, lF (kF y) (kF x) = true) ∧ (∀ y ∈ l.drop j, lF (kF y) (kF x) = false) ∧ Below W.heap.size W wq) (fun si sj _ => (intOf sj - intOf si).toNat)
  case atStart => exact ⟨0, l.length, rfl, rfl, by omega, by omega, fun y hy => by simp at hy, fun y hy => by simp at hy, Below.refl _ _⟩
  case round =>
    obtain ⟨i, j, rfl, rfl, hij, hjl, hlo, hhi, hbq⟩ := hrel
    have HQ := Lib.hid hbq
    have HI := Lib.hid (And.intro hlo hhi)
    clear hbq hlo hhi
    by_cases hlt : i < j
    · have hltI : (i : Int) < (j : Int) := by omega
      obtain ⟨m, hm⟩ : ∃ m : Nat, m = (i + j) / 2 := ⟨_, rfl⟩
      have HMW : Hid (wrap64 (IntKind.u64.wrap (wrap64 ((i : Int) + (j : Int))) / 2) = (m : Int)) := Lib.hid (by rw [mid_num (by omega) (by have : maxLen = 9223372036854775807 := rfl; omega)]; omega)
      have hml : m < l.length := by omega
      have hmb : i ≤ m ∧ m < j := by omega
      clear hm
      obtain ⟨b, off, cap', he, _, _⟩ := HR.out.shape (by omega)
      cases he
      have HE := Lib.hid (And.intro (HR.out.range hml) (show b < W.heap.size from HR.out.lt2 (by omega) b rfl))
      have hmlI : (m : Int) < (l.length : Int) := by omega
      go_wp2_with fail
      rw [HMW.out]
      refine wp_region_flow2_lit [(0, false), (1, false), (2, false), (3, false), (4, false), (5, false), (6, false), (7, false)] (fun wS => Below W.heap.size W wS) (by kernel_rfl) (by kernel_rfl) (by kernel_rfl) HQ.out.drew ?_
      repeat (first | (refine' flow2_pass (o := _) rfl _ _; (focus rfl); simp only [Act.put, List.setIfInBounds_toArray, List.set_cons_zero, List.set_cons_succ]) | (refine' flow2_take (v := _) (o := _) rfl _ _ _; rotate_left; (focus rfl); (focus (intro wS hS; have hE := Ext.refl wS; (skip); go_simp; try (with_reducible (first | exact ⟨rfl, hS, hE⟩ | rfl)); done)); simp only [Act.put, List.setIfInBounds_toArray, List.set_cons_zero, List.set_cons_succ]))
      (refine flow2_take (v := .agg (arr l[m])) (o := _) rfl rfl (fun wS hS => gives_row rfl rfl (rangeAt_below HE.out.1 HE.out.2 hS) ⟨hS, Ext.refl wS⟩) ?_; simp only [Act.put, List.setIfInBounds_toArray, List.set_cons_zero, List.set_cons_succ])
      (refine flow2_take (v := .agg (arr x)) (o := _) rfl rfl (fun wS hS => gives_row rfl rfl (range_row ((hS.block _ (heap_lt HX.out)).trans HX.out)) ⟨hS, Ext.refl wS⟩) ?_; simp only [Act.put, List.setIfInBounds_toArray, List.set_cons_zero, List.set_cons_succ])
      (refine' flow2_take (v := _) (o := _) rfl _ _ _; rotate_left; (focus rfl); (focus (intro wS hS; go_simp; refine (cached_any _ _ _).mono ?_; rintro e w' ⟨rfl, hb⟩; refine ⟨?_, hS.trans (hb.mono hS.size), hb⟩; rfl)); simp only [Act.put, List.setIfInBounds_toArray, List.set_cons_zero, List.set_cons_succ])
      repeat (first | (refine' flow2_pass (o := _) rfl _ _; (focus rfl); simp only [Act.put, List.setIfInBounds_toArray, List.set_cons_zero, List.set_cons_succ]) | (refine' flow2_take (v := _) (o := _) rfl _ _ _; rotate_left; (focus rfl); (focus (intro wS hS; have hE := Ext.refl wS; (skip); go_simp; try (with_reducible (first | exact ⟨rfl, hS, hE⟩ | rfl)); done)); simp only [Act.put, List.setIfInBounds_toArray, List.set_cons_zero, List.set_cons_succ]))
      refine flow2_nil ?_
      intro wT hE hS
      have HT := Lib.hid hS
      clear hE hS
      have H3 := Lib.hid (c3_neg (lt := lF) (kF l[m]) (kF x))
      have hm63 : wrap64 ((m : Int) + 1) = (m : Int) + 1 := IntWalk.wrap64_in _ (by have : maxLen = 9223372036854775807 := rfl; omega)
      have HM1 : Hid (((intOf (.int .i64 (j : Int)) - intOf (.int .i64 (wrap64 ((m : Int) + 1)))).toNat < (intOf (.int .i64 (j : Int)) - intOf (.int .i64 (i : Int))).toNat)) := Lib.hid (by
        rw [hm63]
        show ((j : Int) - ((m : Int) + 1)).toNat < ((j : Int) - (i : Int)).toNat
        omega)
      have HM3 := Lib.hid hm63
      clear hm63
      cases hlt2 : lF (kF l[m]) (kF x) with
      | true =>
        have h3 : c3 lF (kF l[m]) (kF x) < 0 := of_decide_eq_true (H3.out.trans hlt2)
        have HL2 := Lib.hid hlt2
        clear hlt2
        go_wp2_with fail
        go_roundw
        case rel => exact ⟨m + 1, j, by rw [HM3.out]; rfl, rfl, by omega, hjl, cut_lo lF_lin HS.out hml HL2.out, HI.out.2, HT.out⟩
        case measure => exact HM1.out
      | false =>
        have h3 : ¬ c3 lF (kF l[m]) (kF x) < 0 := of_decide_eq_false (H3.out.trans hlt2)
        have HL2 := Lib.hid hlt2
        clear hlt2
        go_wp2_with fail
        go_roundw
        case rel => exact ⟨i, m, rfl, rfl, by omega, by omega, HI.out.1, cut_hi lF_lin HS.out hml HL2.out, HT.out⟩
        case measure => simp [intOf]; omega
    · obtain rfl : j = i := by omega
      have hltI : ¬ (j : Int) < (j : Int) := by omega
      have HC : Hid (Cut kF lF l (kF x) j) := Lib.hid ⟨hjl, HI.out.1, HI.out.2⟩
      have HF := Lib.hid (HC.out.findEq lF_lin HS.out)
      by_cases hn : j < l.length
      · have hnI : (j : Int) < (l.length : Int) := by omega
        obtain ⟨b, off, cap', he, _, _⟩ := HR.out.shape (by omega)
        cases he
        have HE := Lib.hid (And.intro (HR.out.range hn) (show b < W.heap.size from HR.out.lt2 (by omega) b rfl))
        have hf : (find kF l (kF x)).isSome = decide (kF l[j] = kF x) := by
          rw [HF.out, dif_pos hn]
          by_cases e : kF l[j] = kF x
          · rw [if_pos e, decide_eq_true e]; rfl
          · rw [if_neg e, decide_eq_false e]; rfl
        have h0 := c3_zero lF_lin (kF l[j]) (kF x)
        rw [← hf, ← HFR.out] at h0
        clear hf
        go_wp2_with fail
        refine wp_region_flow2_lit [(0, false), (1, false), (2, false), (3, false), (4, false), (5, false), (6, false), (7, false), (8, false), (9, false), (10, false), (11, false), (12, false), (13, false), (14, false), (15, false)] (fun wS => Below W.heap.size W wS) (by kernel_rfl) (by kernel_rfl) (by kernel_rfl) HQ.out.drew ?_
        repeat (first | (refine' flow2_pass (o := _) rfl _ _; (focus rfl); simp only [Act.put, List.setIfInBounds_toArray, List.set_cons_zero, List.set_cons_succ]) | (refine' flow2_take (v := _) (o := _) rfl _ _ _; rotate_left; (focus rfl); (focus (intro wS hS; have hE := Ext.refl wS; (skip); go_simp; try (with_reducible (first | exact ⟨rfl, hS, hE⟩ | rfl)); done)); simp only [Act.put, List.setIfInBounds_toArray, List.set_cons_zero, List.set_cons_succ]))
        (refine flow2_take (v := .agg (arr l[j])) (o := _) rfl rfl (fun wS hS => gives_row rfl rfl (rangeAt_below HE.out.1 HE.out.2 hS) ⟨hS, Ext.refl wS⟩) ?_; simp only [Act.put, List.setIfInBounds_toArray, List.set_cons_zero, List.set_cons_succ])
        (refine flow2_take (v := .agg (arr x)) (o := _) rfl rfl (fun wS hS => gives_row rfl rfl (range_row ((hS.block _ (heap_lt HX.out)).trans HX.out)) ⟨hS, Ext.refl wS⟩) ?_; simp only [Act.put, List.setIfInBounds_toArray, List.set_cons_zero, List.set_cons_succ])
        (refine' flow2_take (v := _) (o := _) rfl _ _ _; rotate_left; (focus rfl); (focus (intro wS hS; go_simp; refine (cached_any _ _ _).mono ?_; rintro e w' ⟨rfl, hb⟩; refine ⟨?_, hS.trans (hb.mono hS.size), hb⟩; rfl)); simp only [Act.put, List.setIfInBounds_toArray, List.set_cons_zero, List.set_cons_succ])
        repeat (first | (refine' flow2_pass (o := _) rfl _ _; (focus rfl); simp only [Act.put, List.setIfInBounds_toArray, List.set_cons_zero, List.set_cons_succ]) | (refine' flow2_take (v := _) (o := _) rfl _ _ _; rotate_left; (focus rfl); (focus (intro wS hS; have hE := Ext.refl wS; (skip); go_simp; try (with_reducible (first | exact ⟨rfl, hS, hE⟩ | rfl)); done)); simp only [Act.put, List.setIfInBounds_toArray, List.set_cons_zero, List.set_cons_succ]))
        refine flow2_nil ?_
        intro wT hE hS
        have HT := Lib.hid hS
        clear hE hS
        go_wp2_with fail
        go_returns
        exact ⟨j, rfl, HC.out, HB.out.trans (HT.out.mono HB.out.size)⟩
      · have hnI : ¬ (j : Int) < (l.length : Int) := by omega
        have hf : (find kF l (kF x)).isSome = false := by rw [HF.out, dif_neg hn]; rfl
        obtain rfl : r = false := HFR.out.trans hf
        clear hf
        go_wp2_with fail
        refine wp_region_flow2_lit [(0, false), (1, false), (2, false), (3, false), (4, false), (5, false), (6, false), (7, false), (8, false), (9, false), (10, false), (11, false), (12, false), (13, false), (14, false), (15, false)] (fun wS => Below W.heap.size W wS) (by kernel_rfl) (by kernel_rfl) (by kernel_rfl) HQ.out.drew ?_
        repeat (first | (refine' flow2_pass (o := _) rfl _ _; (focus rfl); simp only [Act.put, List.setIfInBounds_toArray, List.set_cons_zero, List.set_cons_succ]) | (refine' flow2_take (v := _) (o := _) rfl _ _ _; rotate_left; (focus rfl); (focus (intro wS hS; have hE := Ext.refl wS; (skip); go_simp; try (with_reducible (first | exact ⟨rfl, hS, hE⟩ | rfl)); done)); simp only [Act.put, List.setIfInBounds_toArray, List.set_cons_zero, List.set_cons_succ]))
        refine flow2_nil ?_
        intro wT hE hS
        have HT := Lib.hid hS
        clear hE hS
        go_wp2_with fail
        go_returns
        exact ⟨j, rfl, HC.out, HB.out.trans (HT.out.mono HB.out.size)⟩
set_option maxHeartbeats 8000000 in
theorem fd_Fl {l : List Fl} {v : Value} {B : Nat} {w : World} (x : Fl) (hs : Srt kF lF l) (h : Rs w B v l) :
    Calls Tryz.prog 42 #[v, .agg (arr x), .func (.func 43) #[] #[]] w fun e w' => e = .returned (.tuple #[.agg (arr ((find kF l (kF x)).getD RowT.z)), .bool (find kF l (kF x)).isSome]) ∧ Below w.heap.size w w' := by
  obtain ⟨r, hfr⟩ : ∃ r, r = find kF l (kF x) := ⟨_, rfl⟩
  have HBS0 := Lib.hid (fun W h => bs_Fl (v := v) (B := B) (w := W) x hs h)
  rw [← hfr] at HBS0 ⊢
  have HFR := Lib.hid hfr
  clear hfr
  obtain ⟨A, cap, rfl, hlc, hcap⟩ := h.any
  obtain ⟨W, hW⟩ : ∃ W, W = ((w.alloc (.cells (arr x) 50)).alloc (.cells (arr (RowT.z : Fl)) (RowT.T Fl))).alloc (.cells (arr (RowT.z : Fl)) (RowT.T Fl)) := ⟨_, rfl⟩
  have hb0 : Below w.heap.size w W := by rw [hW]; go_grown
  have hr := h.below hb0
  have HB := Lib.hid hb0
  have hx : W.heap[w.heap.size]? = some (.cells (arr x) 50) := by rw [hW]; exact heap_old_at (heap_old_at (heap_alloc_new _ _))
  have hz1 : W.heap[w.heap.size + 1]? = some (.cells (arr (RowT.z : Fl)) (RowT.T Fl)) := by rw [hW]; exact heap_old_at (heap_new_at _ _ (alloc_size _ _))
  have hz2 : W.heap[w.heap.size + 2]? = some (.cells (arr (RowT.z : Fl)) (RowT.T Fl)) := by rw [hW]; exact heap_new_at _ _ (by rw [alloc_size, alloc_size])
  have HBS := Lib.hid (HBS0.out W hr)
  clear HBS0
  have HS := Lib.hid hs
  have HR := Lib.hid hr
  have HX := Lib.hid hx
  have HZ := Lib.hid (And.intro hz1 hz2)
  have HW := Lib.hid hW
  clear hs hr hx hW h hz1 hz2 hb0
  go_enter Tryz.func42, Tryz.ntmps42
  go_wp2_with (first | (refine rw_alloc (α := Fl) rfl rfl ?_) | (refine rw_load (α := Fl) rfl (.tmp 4) rfl w.heap.size 0 rfl x (range_row (by have := HW.out; rw [HW.out] at HX; exact HX.out)) ?_))
  rw [← HW.out]
  refine HBS.out.mono ?_
  rintro e w1 ⟨i, rfl, hcut, hb1⟩
  have HC := Lib.hid hcut
  have HX1 := Lib.hid ((hb1.block _ (heap_lt HX.out)).trans HX.out)
  have HZ1 := Lib.hid ((hb1.block _ (heap_lt HZ.out.1)).trans HZ.out.1)
  have HZ2 := Lib.hid ((hb1.block _ (heap_lt HZ.out.2)).trans HZ.out.2)
  have HB1 := Lib.hid (HB.out.trans (hb1.mono HB.out.size))
  have HR1 := Lib.hid (HR.out.below hb1)
  clear hb1 hcut
  cases r with
  | none =>
    go_wp2_with (first
      | (refine rw_load (α := Fl) rfl (.tmp 8) rfl (w.heap.size + 2) 0 rfl RowT.z (range_row HZ2.out) ?_)
      | (refine rw_store (α := Fl) rfl (.tmp 6) (.tmp 20) rfl (w.heap.size + 1) RowT.z _ (arr_size _) rfl rfl HZ1.out ?_; intro w2 hb2 hg2 hs2; have hbl : Below w.heap.size w w2 := HB1.out.grown hg2 HB1.out.size (fun j hj => by cases hj; exact Nat.le_succ _)))
    (try simp only [Exit.inBlock, Exit.then])
    refine bodyPost_ret (res_row (α := Fl) Tryz.results42 _ _ (w.heap.size + 1) RowT.z (.bool false) rfl rfl hb2) rfl ?_
    exact ⟨rfl, hbl⟩
  | some y =>
    have hf := HFR.out.symm
    obtain ⟨hil, hy⟩ := HC.out.there lF_lin HS.out (find_some hf).1 (find_some hf).2
    clear hf
    obtain ⟨b, off, cap', he, _, _⟩ := HR1.out.shape (by omega)
    cases he
    have hrg := HR1.out.range hil
    rw [hy] at hrg
    have HE := Lib.hid hrg
    have hiI : (i : Int) < (l.length : Int) := by omega
    clear hrg hy
    go_wp2_with (first
      | (refine rw_load (α := Fl) rfl (.tmp 23) rfl b (off + i * 11) rfl y HE.out ?_)
      | (refine rw_store (α := Fl) rfl (.tmp 6) (.tmp 24) rfl (w.heap.size + 1) y _ (arr_size _) rfl rfl HZ1.out ?_; intro w2 hb2 hg2 hs2; have hbl : Below w.heap.size w w2 := HB1.out.grown hg2 HB1.out.size (fun j hj => by cases hj; exact Nat.le_succ _)))
    (try simp only [Exit.inBlock, Exit.then])
    refine bodyPost_ret (res_row (α := Fl) Tryz.results42 _ _ (w.heap.size + 1) y (.bool true) rfl rfl hb2) rfl ?_
    exact ⟨rfl, hbl⟩
structure CaAt (w : World) (cv : Cv) (c : Ca) : Prop where
  hs : Rs w 0 cv.a.v c.hs
  fs : Rs w 0 cv.b.v c.fs
  ns : Rs w 0 cv.c.v c.ns
  bs : Rs w 0 cv.d.v c.bs
theorem CaAt.below {w w' : World} {cv : Cv} {c : Ca} (h : CaAt w cv c) (hb : Below w.heap.size w w') : CaAt w' cv c := ⟨h.hs.below hb, h.fs.below hb, h.ns.below hb, h.bs.below hb⟩
set_option maxHeartbeats 4000000 in
theorem file_any {c : Ca} {cv : Cv} {w : World} (h : CaAt w cv c) (hs : Srt kF lF c.fs) (u : ByteArray) :
    Calls Tryz.prog 19 #[.agg (arr cv), .string u] w fun r w' => r = .returned (.tuple #[.agg (arr ((find kF c.fs u).getD RowT.z).a), .bool (find kF c.fs u).isSome]) ∧ Below w.heap.size w w' := by
  obtain ⟨W, hW⟩ : ∃ W, W = (w.alloc (.cells (arr cv) 30)).alloc (.cells (arr (RowT.z : At)) (RowT.T At)) := ⟨_, rfl⟩
  have hb0 : Below w.heap.size w W := by rw [hW]; go_grown
  have c1 := (cv_cells (heap_old_at (o := .cells (arr (RowT.z : At)) (RowT.T At)) (heap_alloc_new w (.cells (arr cv) 30)))).2.1
  have HZ : Hid (W.heap[w.heap.size + 1]? = some (.cells (arr (RowT.z : At)) (RowT.T At))) := Lib.hid (by rw [hW]; exact heap_new_at _ _ (alloc_size _ _))
  have HF := Lib.hid (fd_Fl ⟨u, At.zero⟩ hs (h.fs.below hb0))
  have HB := Lib.hid hb0
  have HW := Lib.hid hW
  clear h hs hb0
  change Hid (Calls _ _ _ _ fun r w' => r = .returned (.tuple #[.agg (arr ((find kF c.fs u).getD RowT.z)), .bool (find kF c.fs u).isSome]) ∧ _) at HF
  generalize (find kF c.fs u).isSome = b at HF ⊢
  generalize (find kF c.fs u).getD RowT.z = y at HF ⊢
  clear hW
  go_enter Tryz.func19, Tryz.ntmps19
  go_wp2_with (refine rw_alloc (α := At) rfl rfl ?_)
  rw [← HW.out]
  refine HF.out.mono ?_
  rintro r w1 ⟨rfl, hb1⟩
  have HB1 := Lib.hid (HB.out.trans (hb1.mono HB.out.size))
  have HZ1 := Lib.hid (heap_old_at (o := .cells (arr y) (RowT.T Fl)) ((hb1.block _ (heap_lt HZ.out)).trans HZ.out))
  have hr : (w1.alloc (.cells (arr y) (RowT.T Fl))).rangeAt w1.heap.size 1 (cells y.a) := fun j u hu => by
    rw [row_cell (heap_alloc_new w1 _)]
    have : (arr y)[1 + j]? = (cells y.a)[j]? := by simp [arr, cells, Nat.add_comm]
    rw [this]; exact hu
  have HR := Lib.hid hr
  clear hb1 c1 hr
  go_wp2_with (first
    | (refine rw_put (α := Fl) _ 6 (.tmp 14) rfl rfl rfl rfl rfl rfl y rfl rfl ?_)
    | (refine rw_load (α := At) rfl (.tmp 16) rfl w1.heap.size 1 rfl y.a HR.out ?_)
    | (refine rw_store (α := At) rfl (.tmp 4) (.tmp 17) rfl (w.heap.size + 1) y.a _ (arr_size _) rfl rfl HZ1.out ?_; intro w2 hb2 hg2 hs2; have hbl : Below w.heap.size w w2 := (HB1.out.trans (bel_box.mono HB1.out.size)).grown hg2 (HB1.out.trans (bel_box.mono HB1.out.size)).size (fun j hj => by cases hj; exact Nat.le_succ _)))
  (try simp only [Exit.inBlock, Exit.then])
  refine bodyPost_ret (res_row (α := At) Tryz.results19 _ _ (w.heap.size + 1) y.a (.bool b) rfl rfl hb2) rfl ?_
  exact ⟨rfl, hbl⟩
set_option maxHeartbeats 8000000 in
theorem ix_Nm {l : List Nm} {v : Value} {B B' : Nat} {w : World} {g : Nat} {lb : Array Value} {p : Nm → Bool} (hp : PB B w g lb p) (hB : B ≤ w.heap.size) (h : Rs w B' v l) :
    Calls Tryz.prog 98 #[v, .func (.func g) #[] lb] w fun e w' => ∃ i : Int, e = .returned (.int .i64 i) ∧ Below w.heap.size w w' ∧ ((i = -1 ∧ ∀ x ∈ l, p x = false) ∨ ∃ (j : Nat) (hj : j < l.length), i = j ∧ p l[j] = true ∧ ∀ y ∈ l.take j, p y = false) := by
  obtain ⟨A, cap, rfl, hlc, hcap⟩ := h.any
  have HP := Lib.hid hp
  have HR := Lib.hid h
  have eg := hp.eg
  clear hp h
  go_enter Tryz.func98, Tryz.ntmps98
  go_wp2_with fail
  go_loopw [8] (fun i wq => ∃ k : Nat, k ≤ l.length ∧ i = .int .i64 k ∧ (∀ y ∈ l.take k, p y = false) ∧ Below w.heap.size w wq) (fun i _ => l.length - (intOf i).toNat)
  case atStart => exact ⟨0, by omega, rfl, fun y hy => by simp at hy, Below.refl _ _⟩
  case round =>
    obtain ⟨k, hk, rfl, hno, hbq⟩ := hrel
    have HQ := Lib.hid hbq
    have HN := Lib.hid hno
    clear hbq hno
    by_cases hlt : k < l.length
    · have hltI : (k : Int) < (l.length : Int) := by omega
      obtain ⟨b, off, cap', he, _, _⟩ := HR.out.shape (by omega)
      cases he
      have HE := Lib.hid (rangeAt_below (HR.out.range hlt) (HR.out.lt2 (by omega) b rfl) HQ.out)
      have HC := Lib.hid (HP.out.says wr l[k] (HQ.out.mono hB))
      have hk63 : wrap64 ((k : Int) + 1) = (k : Int) + 1 := IntWalk.wrap64_in _ (by have : maxLen = 9223372036854775807 := rfl; omega)
      have HMS : Hid (l.length - (intOf (.int .i64 (wrap64 ((k : Int) + 1)))).toNat < l.length - (intOf (.int .i64 (k : Int))).toNat) := Lib.hid (by
        rw [hk63]
        show l.length - ((k : Int) + 1).toNat < l.length - (k : Int).toNat
        omega)
      have HK63 := Lib.hid hk63
      clear hk63
      have HT : Hid (l.take (k + 1) = l.take k ++ [l[k]]) := Lib.hid (by rw [List.take_succ_eq_append_getElem hlt])
      cases hpx : p l[k] with
      | false =>
        have HPX := Lib.hid hpx
        rw [hpx] at HC
        clear hpx
        go_wp2_with (first
          | (refine rw_load (α := Nm) rfl (.tmp 14) rfl b (off + k * 3) rfl l[k] HE.out ?_)
          | (go_at_fn g; refine HC.out.mono ?_; rintro e w' ⟨rfl, hbw⟩; have HBW := Lib.hid (HQ.out.trans (hbw.mono HQ.out.size)); clear hbw))
        go_roundw
        case rel => exact ⟨k + 1, by omega, by rw [HK63.out]; rfl, fun y hy => by
          rw [HT.out] at hy
          rcases List.mem_append.1 hy with h1 | h1
          · exact HN.out y h1
          · rw [List.mem_singleton.1 h1]; exact HPX.out, HBW.out⟩
        case measure => exact HMS.out
      | true =>
        have HPX := Lib.hid hpx
        rw [hpx] at HC
        clear hpx
        go_wp2_with (first
          | (refine rw_load (α := Nm) rfl (.tmp 14) rfl b (off + k * 3) rfl l[k] HE.out ?_)
          | (go_at_fn g; refine HC.out.mono ?_; rintro e w' ⟨rfl, hbw⟩; have HBW := Lib.hid (HQ.out.trans (hbw.mono HQ.out.size)); clear hbw))
        go_returns
        exact ⟨_, rfl, HBW.out, .inr ⟨k, hlt, rfl, HPX.out, HN.out⟩⟩
    · have hltI : ¬ (k : Int) < (l.length : Int) := by omega
      obtain rfl : k = l.length := by omega
      have HN2 : Hid (∀ x ∈ l, p x = false) := Lib.hid (by have := HN.out; rwa [List.take_length] at this)
      clear HN
      go_wp2_with fail
      go_returns
      exact ⟨_, rfl, HQ.out, .inl ⟨rfl, HN2.out⟩⟩
set_option maxHeartbeats 8000000 in
theorem ix_Bl {l : List Bl} {v : Value} {B B' : Nat} {w : World} {g : Nat} {lb : Array Value} {p : Bl → Bool} (hp : PB B w g lb p) (hB : B ≤ w.heap.size) (h : Rs w B' v l) :
    Calls Tryz.prog 99 #[v, .func (.func g) #[] lb] w fun e w' => ∃ i : Int, e = .returned (.int .i64 i) ∧ Below w.heap.size w w' ∧ ((i = -1 ∧ ∀ x ∈ l, p x = false) ∨ ∃ (j : Nat) (hj : j < l.length), i = j ∧ p l[j] = true ∧ ∀ y ∈ l.take j, p y = false) := by
  obtain ⟨A, cap, rfl, hlc, hcap⟩ := h.any
  have HP := Lib.hid hp
  have HR := Lib.hid h
  have eg := hp.eg
  clear hp h
  go_enter Tryz.func99, Tryz.ntmps99
  go_wp2_with fail
  go_loopw [8] (fun i wq => ∃ k : Nat, k ≤ l.length ∧ i = .int .i64 k ∧ (∀ y ∈ l.take k, p y = false) ∧ Below w.heap.size w wq) (fun i _ => l.length - (intOf i).toNat)
  case atStart => exact ⟨0, by omega, rfl, fun y hy => by simp at hy, Below.refl _ _⟩
  case round =>
    obtain ⟨k, hk, rfl, hno, hbq⟩ := hrel
    have HQ := Lib.hid hbq
    have HN := Lib.hid hno
    clear hbq hno
    by_cases hlt : k < l.length
    · have hltI : (k : Int) < (l.length : Int) := by omega
      obtain ⟨b, off, cap', he, _, _⟩ := HR.out.shape (by omega)
      cases he
      have HE := Lib.hid (rangeAt_below (HR.out.range hlt) (HR.out.lt2 (by omega) b rfl) HQ.out)
      have HC := Lib.hid (HP.out.says wr l[k] (HQ.out.mono hB))
      have hk63 : wrap64 ((k : Int) + 1) = (k : Int) + 1 := IntWalk.wrap64_in _ (by have : maxLen = 9223372036854775807 := rfl; omega)
      have HMS : Hid (l.length - (intOf (.int .i64 (wrap64 ((k : Int) + 1)))).toNat < l.length - (intOf (.int .i64 (k : Int))).toNat) := Lib.hid (by
        rw [hk63]
        show l.length - ((k : Int) + 1).toNat < l.length - (k : Int).toNat
        omega)
      have HK63 := Lib.hid hk63
      clear hk63
      have HT : Hid (l.take (k + 1) = l.take k ++ [l[k]]) := Lib.hid (by rw [List.take_succ_eq_append_getElem hlt])
      cases hpx : p l[k] with
      | false =>
        have HPX := Lib.hid hpx
        rw [hpx] at HC
        clear hpx
        go_wp2_with (first
          | (refine rw_load (α := Bl) rfl (.tmp 14) rfl b (off + k * 3) rfl l[k] HE.out ?_)
          | (go_at_fn g; refine HC.out.mono ?_; rintro e w' ⟨rfl, hbw⟩; have HBW := Lib.hid (HQ.out.trans (hbw.mono HQ.out.size)); clear hbw))
        go_roundw
        case rel => exact ⟨k + 1, by omega, by rw [HK63.out]; rfl, fun y hy => by
          rw [HT.out] at hy
          rcases List.mem_append.1 hy with h1 | h1
          · exact HN.out y h1
          · rw [List.mem_singleton.1 h1]; exact HPX.out, HBW.out⟩
        case measure => exact HMS.out
      | true =>
        have HPX := Lib.hid hpx
        rw [hpx] at HC
        clear hpx
        go_wp2_with (first
          | (refine rw_load (α := Bl) rfl (.tmp 14) rfl b (off + k * 3) rfl l[k] HE.out ?_)
          | (go_at_fn g; refine HC.out.mono ?_; rintro e w' ⟨rfl, hbw⟩; have HBW := Lib.hid (HQ.out.trans (hbw.mono HQ.out.size)); clear hbw))
        go_returns
        exact ⟨_, rfl, HBW.out, .inr ⟨k, hlt, rfl, HPX.out, HN.out⟩⟩
    · have hltI : ¬ (k : Int) < (l.length : Int) := by omega
      obtain rfl : k = l.length := by omega
      have HN2 : Hid (∀ x ∈ l, p x = false) := Lib.hid (by have := HN.out; rwa [List.take_length] at this)
      clear HN
      go_wp2_with fail
      go_returns
      exact ⟨_, rfl, HQ.out, .inl ⟨rfl, HN2.out⟩⟩
theorem cb_any {l : List Bl} {v : Value} {B B' : Nat} {w : World} {g : Nat} {lb : Array Value} {p : Bl → Bool} (hp : PB B w g lb p) (hB : B ≤ w.heap.size) (h : Rs w B' v l) :
    Calls Tryz.prog 69 #[v, .func (.func g) #[] lb] w fun e w' => e = .returned (.bool (l.any p)) ∧ Below w.heap.size w w' := by
  have HIX := Lib.hid (ix_Bl hp hB h)
  obtain ⟨A, cap, hv, hlc, hcap⟩ := h.any
  subst hv
  clear hp h
  go_enter Tryz.func69, Tryz.ntmps69
  go_wp2_with fail
  refine HIX.out.mono ?_
  rintro e w1 ⟨i0, rfl, hb1, hcase⟩
  have HB1 := Lib.hid hb1
  clear hb1
  rcases hcase with ⟨rfl, hno⟩ | ⟨j, hj, rfl, hpj, hno⟩
  · have HF : Hid (l.any p = false) := Lib.hid (by rw [List.any_eq_false]; intro x hx; rw [hno x hx]; simp)
    clear hno
    go_wp2_with fail
    go_ret
    rw [HF.out]
    exact ⟨rfl, HB1.out⟩
  · have HF : Hid (l.any p = true) := Lib.hid (List.any_eq_true.2 ⟨l[j], List.getElem_mem hj, hpj⟩)
    clear hno hpj
    go_wp2_with fail
    go_ret
    rw [HF.out]
    exact ⟨rfl, HB1.out⟩
set_option maxHeartbeats 8000000 in
theorem ri_Hd {l : List Hd} {v : Value} {B : Nat} {w : World} (h : Rs w B v l) :
    Calls Tryz.prog 59 #[v, .func (.func 40) #[] #[]] w (IsV (Srt kH lH l) w) := by
  obtain ⟨A, cap, rfl, hlc, hcap⟩ := h.any
  have HR := Lib.hid h
  clear h
  have hm63 : maxLen = 9223372036854775807 := rfl
  go_enter Tryz.func59, Tryz.ntmps59
  go_wp2_with fail
  go_loopw [8] (fun i wq => ∃ k : Nat, k ≤ l.length ∧ i = .int .i64 k ∧ Srt kH lH (l.take k) ∧ Below w.heap.size w wq) (fun i _ => l.length - (intOf i).toNat)
  case atStart => exact ⟨0, by omega, rfl, .nil, Below.refl _ _⟩
  case round =>
    obtain ⟨k, hk, rfl, hs, hbq⟩ := hrel
    have HQ := Lib.hid hbq
    have HS := Lib.hid hs
    clear hbq hs
    by_cases hlt : k < l.length
    · have hltI : (k : Int) < (l.length : Int) := by omega
      by_cases h0 : 0 < k
      · have h0I : (0 : Int) < (k : Int) := by omega
        have hp : k - 1 < l.length := by omega
        obtain ⟨b, off, cap', he, _, _⟩ := HR.out.shape (by omega)
        cases he
        have HE := Lib.hid (rangeAt_below (HR.out.range hlt) (HR.out.lt2 (by omega) b rfl) HQ.out)
        have HE1 := Lib.hid (rangeAt_below (HR.out.range hp) (HR.out.lt2 (by omega) b rfl) HQ.out)
        have HBL := Lib.hid (Nat.lt_of_lt_of_le (HR.out.lt2 (by omega) b rfl) HQ.out.size)
        have HN := Lib.hid (fun hx => srt_next lH_lin hlt h0 hx HS.out)
        have HB0 := Lib.hid (fun hx => srt_break (k := kH) (lt := lH) hlt h0 hx)
        obtain ⟨j, hj⟩ : ∃ j : Nat, j = k - 1 := ⟨_, rfl⟩
        have hjI : IntKind.i64.wrap ((k : Int) - 1) = (j : Int) := by rw [IntWalk.i64_in _ (by omega)]; omega
        have hjlI : (j : Int) < (l.length : Int) := by omega
        have hjl : j < l.length := by omega
        simp only [← hj] at HE1 HN HB0
        have H3 := Lib.hid (c3_geq (lt := lH) (kH (l[j]'hjl)) (kH l[k]))
        generalize (l[j]'hjl) = xj at HE1 HN HB0 H3
        generalize (l[k]'hlt) = xk at HE HN HB0 H3
        clear hj
        go_wp2_with fail
        refine wp_region_flow2_lit [(0, false), (1, false), (2, false), (3, false), (4, false), (5, false), (6, false), (7, false), (8, false), (9, false), (10, false), (11, false), (12, false), (13, false), (14, false), (15, false)] (fun wS => Below wr.heap.size wr wS) (by kernel_rfl) (by kernel_rfl) (by kernel_rfl) (Below.refl _ _).drew ?_
        repeat (first | (refine' flow2_pass (o := _) rfl _ _; (focus rfl); simp only [Act.put, List.setIfInBounds_toArray, List.set_cons_zero, List.set_cons_succ]) | (refine' flow2_take (v := _) (o := _) rfl _ _ _; rotate_left; (focus rfl); (focus (intro wS hS; have hE := Ext.refl wS; (skip); go_simp; try (with_reducible (first | exact ⟨rfl, hS, hE⟩ | rfl)); done)); simp only [Act.put, List.setIfInBounds_toArray, List.set_cons_zero, List.set_cons_succ]))
        (refine flow2_take (v := .agg (arr xj)) (o := _) rfl rfl (fun wS hS => gives_row rfl rfl (rangeAt_below HE1.out HBL.out hS) ⟨hS, Ext.refl wS⟩) ?_; simp only [Act.put, List.setIfInBounds_toArray, List.set_cons_zero, List.set_cons_succ])
        repeat (first | (refine' flow2_pass (o := _) rfl _ _; (focus rfl); simp only [Act.put, List.setIfInBounds_toArray, List.set_cons_zero, List.set_cons_succ]) | (refine' flow2_take (v := _) (o := _) rfl _ _ _; rotate_left; (focus rfl); (focus (intro wS hS; have hE := Ext.refl wS; (skip); go_simp; try (with_reducible (first | exact ⟨rfl, hS, hE⟩ | rfl)); done)); simp only [Act.put, List.setIfInBounds_toArray, List.set_cons_zero, List.set_cons_succ]))
        (refine flow2_take (v := .agg (arr xk)) (o := _) rfl rfl (fun wS hS => gives_row rfl rfl (rangeAt_below HE.out HBL.out hS) ⟨hS, Ext.refl wS⟩) ?_; simp only [Act.put, List.setIfInBounds_toArray, List.set_cons_zero, List.set_cons_succ])
        (refine' flow2_take (v := _) (o := _) rfl _ _ _; rotate_left; (focus rfl); (focus (intro wS hS; go_simp; refine (held_any _ _ _).mono ?_; rintro e w' ⟨rfl, hb⟩; refine ⟨?_, hS.trans (hb.mono hS.size), hb⟩; rfl)); simp only [Act.put, List.setIfInBounds_toArray, List.set_cons_zero, List.set_cons_succ])
        repeat (first | (refine' flow2_pass (o := _) rfl _ _; (focus rfl); simp only [Act.put, List.setIfInBounds_toArray, List.set_cons_zero, List.set_cons_succ]) | (refine' flow2_take (v := _) (o := _) rfl _ _ _; rotate_left; (focus rfl); (focus (intro wS hS; have hE := Ext.refl wS; (skip); go_simp; try (with_reducible (first | exact ⟨rfl, hS, hE⟩ | rfl)); done)); simp only [Act.put, List.setIfInBounds_toArray, List.set_cons_zero, List.set_cons_succ]))
        refine flow2_nil ?_
        intro wT hE hS
        have HT := Lib.hid (HQ.out.trans (hS.mono HQ.out.size))
        clear hE hS
        cases hx : lH (kH xj) (kH xk) with
        | true =>
          have h3 : ¬ 0 ≤ c3 lH (kH xj) (kH xk) := of_decide_eq_false (H3.out.trans (by rw [hx]; rfl))
          have HN2 := Lib.hid (HN.out hx)
          clear hx
          go_wp2_with fail
          go_roundw
          case rel => exact ⟨k + 1, by omega, by go_num, HN2.out, HT.out⟩
          case measure => simp [intOf]; omega
        | false =>
          have h3 : 0 ≤ c3 lH (kH xj) (kH xk) := of_decide_eq_true (H3.out.trans (by rw [hx]; rfl))
          have HB2 := Lib.hid (HB0.out hx)
          clear hx
          go_wp2_with fail
          go_returns
          exact ⟨false, rfl, ⟨fun h => (nomatch h), fun h => absurd h HB2.out⟩, HT.out⟩
      · have h0I : ¬ (0 : Int) < (k : Int) := by omega
        have HN := Lib.hid (srt_first (k := kH) (lt := lH) (l := l) (by omega))
        go_wp2_with fail
        refine wp_region_flow2_lit [(0, false), (1, false), (2, false), (3, false), (4, false), (5, false), (6, false), (7, false), (8, false), (9, false), (10, false), (11, false), (12, false), (13, false), (14, false), (15, false)] (fun wS => Below wr.heap.size wr wS) (by kernel_rfl) (by kernel_rfl) (by kernel_rfl) (Below.refl _ _).drew ?_
        repeat (first | (refine' flow2_pass (o := _) rfl _ _; (focus rfl); simp only [Act.put, List.setIfInBounds_toArray, List.set_cons_zero, List.set_cons_succ]) | (refine' flow2_take (v := _) (o := _) rfl _ _ _; rotate_left; (focus rfl); (focus (intro wS hS; have hE := Ext.refl wS; (skip); go_simp; try (with_reducible (first | exact ⟨rfl, hS, hE⟩ | rfl)); done)); simp only [Act.put, List.setIfInBounds_toArray, List.set_cons_zero, List.set_cons_succ]))
        refine flow2_nil ?_
        intro wT hE hS
        have HT := Lib.hid (HQ.out.trans (hS.mono HQ.out.size))
        clear hE hS
        go_wp2_with fail
        go_roundw
        case rel => exact ⟨k + 1, by omega, by go_num, (by obtain rfl : k = 0 := (by omega); exact HN.out), HT.out⟩
        case measure => simp [intOf]; omega
    · have hltI : ¬ (k : Int) < (l.length : Int) := by omega
      obtain rfl : k = l.length := by omega
      have HS2 := HS.out
      rw [List.take_length] at HS2
      have HS3 := Lib.hid HS2
      clear HS2
      go_wp2_with fail
      go_returns
      exact ⟨true, rfl, ⟨fun _ => HS3.out, fun _ => rfl⟩, HQ.out⟩
set_option maxHeartbeats 8000000 in
theorem ri_Fl {l : List Fl} {v : Value} {B : Nat} {w : World} (h : Rs w B v l) :
    Calls Tryz.prog 60 #[v, .func (.func 43) #[] #[]] w (IsV (Srt kF lF l) w) := by
  obtain ⟨A, cap, rfl, hlc, hcap⟩ := h.any
  have HR := Lib.hid h
  clear h
  have hm63 : maxLen = 9223372036854775807 := rfl
  go_enter Tryz.func60, Tryz.ntmps60
  go_wp2_with fail
  go_loopw [8] (fun i wq => ∃ k : Nat, k ≤ l.length ∧ i = .int .i64 k ∧ Srt kF lF (l.take k) ∧ Below w.heap.size w wq) (fun i _ => l.length - (intOf i).toNat)
  case atStart => exact ⟨0, by omega, rfl, .nil, Below.refl _ _⟩
  case round =>
    obtain ⟨k, hk, rfl, hs, hbq⟩ := hrel
    have HQ := Lib.hid hbq
    have HS := Lib.hid hs
    clear hbq hs
    by_cases hlt : k < l.length
    · have hltI : (k : Int) < (l.length : Int) := by omega
      by_cases h0 : 0 < k
      · have h0I : (0 : Int) < (k : Int) := by omega
        have hp : k - 1 < l.length := by omega
        obtain ⟨b, off, cap', he, _, _⟩ := HR.out.shape (by omega)
        cases he
        have HE := Lib.hid (rangeAt_below (HR.out.range hlt) (HR.out.lt2 (by omega) b rfl) HQ.out)
        have HE1 := Lib.hid (rangeAt_below (HR.out.range hp) (HR.out.lt2 (by omega) b rfl) HQ.out)
        have HBL := Lib.hid (Nat.lt_of_lt_of_le (HR.out.lt2 (by omega) b rfl) HQ.out.size)
        have HN := Lib.hid (fun hx => srt_next lF_lin hlt h0 hx HS.out)
        have HB0 := Lib.hid (fun hx => srt_break (k := kF) (lt := lF) hlt h0 hx)
        obtain ⟨j, hj⟩ : ∃ j : Nat, j = k - 1 := ⟨_, rfl⟩
        have hjI : IntKind.i64.wrap ((k : Int) - 1) = (j : Int) := by rw [IntWalk.i64_in _ (by omega)]; omega
        have hjlI : (j : Int) < (l.length : Int) := by omega
        have hjl : j < l.length := by omega
        simp only [← hj] at HE1 HN HB0
        have H3 := Lib.hid (c3_geq (lt := lF) (kF (l[j]'hjl)) (kF l[k]))
        generalize (l[j]'hjl) = xj at HE1 HN HB0 H3
        generalize (l[k]'hlt) = xk at HE HN HB0 H3
        clear hj
        go_wp2_with fail
        refine wp_region_flow2_lit [(0, false), (1, false), (2, false), (3, false), (4, false), (5, false), (6, false), (7, false), (8, false), (9, false), (10, false), (11, false), (12, false), (13, false), (14, false), (15, false)] (fun wS => Below wr.heap.size wr wS) (by kernel_rfl) (by kernel_rfl) (by kernel_rfl) (Below.refl _ _).drew ?_
        repeat (first | (refine' flow2_pass (o := _) rfl _ _; (focus rfl); simp only [Act.put, List.setIfInBounds_toArray, List.set_cons_zero, List.set_cons_succ]) | (refine' flow2_take (v := _) (o := _) rfl _ _ _; rotate_left; (focus rfl); (focus (intro wS hS; have hE := Ext.refl wS; (skip); go_simp; try (with_reducible (first | exact ⟨rfl, hS, hE⟩ | rfl)); done)); simp only [Act.put, List.setIfInBounds_toArray, List.set_cons_zero, List.set_cons_succ]))
        (refine flow2_take (v := .agg (arr xj)) (o := _) rfl rfl (fun wS hS => gives_row rfl rfl (rangeAt_below HE1.out HBL.out hS) ⟨hS, Ext.refl wS⟩) ?_; simp only [Act.put, List.setIfInBounds_toArray, List.set_cons_zero, List.set_cons_succ])
        repeat (first | (refine' flow2_pass (o := _) rfl _ _; (focus rfl); simp only [Act.put, List.setIfInBounds_toArray, List.set_cons_zero, List.set_cons_succ]) | (refine' flow2_take (v := _) (o := _) rfl _ _ _; rotate_left; (focus rfl); (focus (intro wS hS; have hE := Ext.refl wS; (skip); go_simp; try (with_reducible (first | exact ⟨rfl, hS, hE⟩ | rfl)); done)); simp only [Act.put, List.setIfInBounds_toArray, List.set_cons_zero, List.set_cons_succ]))
        (refine flow2_take (v := .agg (arr xk)) (o := _) rfl rfl (fun wS hS => gives_row rfl rfl (rangeAt_below HE.out HBL.out hS) ⟨hS, Ext.refl wS⟩) ?_; simp only [Act.put, List.setIfInBounds_toArray, List.set_cons_zero, List.set_cons_succ])
        (refine' flow2_take (v := _) (o := _) rfl _ _ _; rotate_left; (focus rfl); (focus (intro wS hS; go_simp; refine (cached_any _ _ _).mono ?_; rintro e w' ⟨rfl, hb⟩; refine ⟨?_, hS.trans (hb.mono hS.size), hb⟩; rfl)); simp only [Act.put, List.setIfInBounds_toArray, List.set_cons_zero, List.set_cons_succ])
        repeat (first | (refine' flow2_pass (o := _) rfl _ _; (focus rfl); simp only [Act.put, List.setIfInBounds_toArray, List.set_cons_zero, List.set_cons_succ]) | (refine' flow2_take (v := _) (o := _) rfl _ _ _; rotate_left; (focus rfl); (focus (intro wS hS; have hE := Ext.refl wS; (skip); go_simp; try (with_reducible (first | exact ⟨rfl, hS, hE⟩ | rfl)); done)); simp only [Act.put, List.setIfInBounds_toArray, List.set_cons_zero, List.set_cons_succ]))
        refine flow2_nil ?_
        intro wT hE hS
        have HT := Lib.hid (HQ.out.trans (hS.mono HQ.out.size))
        clear hE hS
        cases hx : lF (kF xj) (kF xk) with
        | true =>
          have h3 : ¬ 0 ≤ c3 lF (kF xj) (kF xk) := of_decide_eq_false (H3.out.trans (by rw [hx]; rfl))
          have HN2 := Lib.hid (HN.out hx)
          clear hx
          go_wp2_with fail
          go_roundw
          case rel => exact ⟨k + 1, by omega, by go_num, HN2.out, HT.out⟩
          case measure => simp [intOf]; omega
        | false =>
          have h3 : 0 ≤ c3 lF (kF xj) (kF xk) := of_decide_eq_true (H3.out.trans (by rw [hx]; rfl))
          have HB2 := Lib.hid (HB0.out hx)
          clear hx
          go_wp2_with fail
          go_returns
          exact ⟨false, rfl, ⟨fun h => (nomatch h), fun h => absurd h HB2.out⟩, HT.out⟩
      · have h0I : ¬ (0 : Int) < (k : Int) := by omega
        have HN := Lib.hid (srt_first (k := kF) (lt := lF) (l := l) (by omega))
        go_wp2_with fail
        refine wp_region_flow2_lit [(0, false), (1, false), (2, false), (3, false), (4, false), (5, false), (6, false), (7, false), (8, false), (9, false), (10, false), (11, false), (12, false), (13, false), (14, false), (15, false)] (fun wS => Below wr.heap.size wr wS) (by kernel_rfl) (by kernel_rfl) (by kernel_rfl) (Below.refl _ _).drew ?_
        repeat (first | (refine' flow2_pass (o := _) rfl _ _; (focus rfl); simp only [Act.put, List.setIfInBounds_toArray, List.set_cons_zero, List.set_cons_succ]) | (refine' flow2_take (v := _) (o := _) rfl _ _ _; rotate_left; (focus rfl); (focus (intro wS hS; have hE := Ext.refl wS; (skip); go_simp; try (with_reducible (first | exact ⟨rfl, hS, hE⟩ | rfl)); done)); simp only [Act.put, List.setIfInBounds_toArray, List.set_cons_zero, List.set_cons_succ]))
        refine flow2_nil ?_
        intro wT hE hS
        have HT := Lib.hid (HQ.out.trans (hS.mono HQ.out.size))
        clear hE hS
        go_wp2_with fail
        go_roundw
        case rel => exact ⟨k + 1, by omega, by go_num, (by obtain rfl : k = 0 := (by omega); exact HN.out), HT.out⟩
        case measure => simp [intOf]; omega
    · have hltI : ¬ (k : Int) < (l.length : Int) := by omega
      obtain rfl : k = l.length := by omega
      have HS2 := HS.out
      rw [List.take_length] at HS2
      have HS3 := Lib.hid HS2
      clear HS2
      go_wp2_with fail
      go_returns
      exact ⟨true, rfl, ⟨fun _ => HS3.out, fun _ => rfl⟩, HQ.out⟩
set_option maxHeartbeats 8000000 in
theorem ri_Nm {l : List Nm} {v : Value} {B : Nat} {w : World} (h : Rs w B v l) :
    Calls Tryz.prog 61 #[v, .func (.func 45) #[] #[]] w (IsV (Srt kN lN l) w) := by
  obtain ⟨A, cap, rfl, hlc, hcap⟩ := h.any
  have HR := Lib.hid h
  clear h
  have hm63 : maxLen = 9223372036854775807 := rfl
  go_enter Tryz.func61, Tryz.ntmps61
  go_wp2_with fail
  go_loopw [8] (fun i wq => ∃ k : Nat, k ≤ l.length ∧ i = .int .i64 k ∧ Srt kN lN (l.take k) ∧ Below w.heap.size w wq) (fun i _ => l.length - (intOf i).toNat)
  case atStart => exact ⟨0, by omega, rfl, .nil, Below.refl _ _⟩
  case round =>
    obtain ⟨k, hk, rfl, hs, hbq⟩ := hrel
    have HQ := Lib.hid hbq
    have HS := Lib.hid hs
    clear hbq hs
    by_cases hlt : k < l.length
    · have hltI : (k : Int) < (l.length : Int) := by omega
      by_cases h0 : 0 < k
      · have h0I : (0 : Int) < (k : Int) := by omega
        have hp : k - 1 < l.length := by omega
        obtain ⟨b, off, cap', he, _, _⟩ := HR.out.shape (by omega)
        cases he
        have HE := Lib.hid (rangeAt_below (HR.out.range hlt) (HR.out.lt2 (by omega) b rfl) HQ.out)
        have HE1 := Lib.hid (rangeAt_below (HR.out.range hp) (HR.out.lt2 (by omega) b rfl) HQ.out)
        have HBL := Lib.hid (Nat.lt_of_lt_of_le (HR.out.lt2 (by omega) b rfl) HQ.out.size)
        have HN := Lib.hid (fun hx => srt_next lN_lin hlt h0 hx HS.out)
        have HB0 := Lib.hid (fun hx => srt_break (k := kN) (lt := lN) hlt h0 hx)
        obtain ⟨j, hj⟩ : ∃ j : Nat, j = k - 1 := ⟨_, rfl⟩
        have hjI : IntKind.i64.wrap ((k : Int) - 1) = (j : Int) := by rw [IntWalk.i64_in _ (by omega)]; omega
        have hjlI : (j : Int) < (l.length : Int) := by omega
        have hjl : j < l.length := by omega
        simp only [← hj] at HE1 HN HB0
        have H3 := Lib.hid (c3_geq (lt := lN) (kN (l[j]'hjl)) (kN l[k]))
        generalize (l[j]'hjl) = xj at HE1 HN HB0 H3
        generalize (l[k]'hlt) = xk at HE HN HB0 H3
        clear hj
        go_wp2_with fail
        refine wp_region_flow2_lit [(0, false), (1, false), (2, false), (3, false), (4, false), (5, false), (6, false), (7, false), (8, false), (9, false), (10, false), (11, false), (12, false), (13, false), (14, false), (15, false)] (fun wS => Below wr.heap.size wr wS) (by kernel_rfl) (by kernel_rfl) (by kernel_rfl) (Below.refl _ _).drew ?_
        repeat (first | (refine' flow2_pass (o := _) rfl _ _; (focus rfl); simp only [Act.put, List.setIfInBounds_toArray, List.set_cons_zero, List.set_cons_succ]) | (refine' flow2_take (v := _) (o := _) rfl _ _ _; rotate_left; (focus rfl); (focus (intro wS hS; have hE := Ext.refl wS; (skip); go_simp; try (with_reducible (first | exact ⟨rfl, hS, hE⟩ | rfl)); done)); simp only [Act.put, List.setIfInBounds_toArray, List.set_cons_zero, List.set_cons_succ]))
        (refine flow2_take (v := .agg (arr xj)) (o := _) rfl rfl (fun wS hS => gives_row rfl rfl (rangeAt_below HE1.out HBL.out hS) ⟨hS, Ext.refl wS⟩) ?_; simp only [Act.put, List.setIfInBounds_toArray, List.set_cons_zero, List.set_cons_succ])
        repeat (first | (refine' flow2_pass (o := _) rfl _ _; (focus rfl); simp only [Act.put, List.setIfInBounds_toArray, List.set_cons_zero, List.set_cons_succ]) | (refine' flow2_take (v := _) (o := _) rfl _ _ _; rotate_left; (focus rfl); (focus (intro wS hS; have hE := Ext.refl wS; (skip); go_simp; try (with_reducible (first | exact ⟨rfl, hS, hE⟩ | rfl)); done)); simp only [Act.put, List.setIfInBounds_toArray, List.set_cons_zero, List.set_cons_succ]))
        (refine flow2_take (v := .agg (arr xk)) (o := _) rfl rfl (fun wS hS => gives_row rfl rfl (rangeAt_below HE.out HBL.out hS) ⟨hS, Ext.refl wS⟩) ?_; simp only [Act.put, List.setIfInBounds_toArray, List.set_cons_zero, List.set_cons_succ])
        (refine' flow2_take (v := _) (o := _) rfl _ _ _; rotate_left; (focus rfl); (focus (intro wS hS; go_simp; refine (known_any _ _ _).mono ?_; rintro e w' ⟨rfl, hb⟩; refine ⟨?_, hS.trans (hb.mono hS.size), hb⟩; rfl)); simp only [Act.put, List.setIfInBounds_toArray, List.set_cons_zero, List.set_cons_succ])
        repeat (first | (refine' flow2_pass (o := _) rfl _ _; (focus rfl); simp only [Act.put, List.setIfInBounds_toArray, List.set_cons_zero, List.set_cons_succ]) | (refine' flow2_take (v := _) (o := _) rfl _ _ _; rotate_left; (focus rfl); (focus (intro wS hS; have hE := Ext.refl wS; (skip); go_simp; try (with_reducible (first | exact ⟨rfl, hS, hE⟩ | rfl)); done)); simp only [Act.put, List.setIfInBounds_toArray, List.set_cons_zero, List.set_cons_succ]))
        refine flow2_nil ?_
        intro wT hE hS
        have HT := Lib.hid (HQ.out.trans (hS.mono HQ.out.size))
        clear hE hS
        cases hx : lN (kN xj) (kN xk) with
        | true =>
          have h3 : ¬ 0 ≤ c3 lN (kN xj) (kN xk) := of_decide_eq_false (H3.out.trans (by rw [hx]; rfl))
          have HN2 := Lib.hid (HN.out hx)
          clear hx
          go_wp2_with fail
          go_roundw
          case rel => exact ⟨k + 1, by omega, by go_num, HN2.out, HT.out⟩
          case measure => simp [intOf]; omega
        | false =>
          have h3 : 0 ≤ c3 lN (kN xj) (kN xk) := of_decide_eq_true (H3.out.trans (by rw [hx]; rfl))
          have HB2 := Lib.hid (HB0.out hx)
          clear hx
          go_wp2_with fail
          go_returns
          exact ⟨false, rfl, ⟨fun h => (nomatch h), fun h => absurd h HB2.out⟩, HT.out⟩
      · have h0I : ¬ (0 : Int) < (k : Int) := by omega
        have HN := Lib.hid (srt_first (k := kN) (lt := lN) (l := l) (by omega))
        go_wp2_with fail
        refine wp_region_flow2_lit [(0, false), (1, false), (2, false), (3, false), (4, false), (5, false), (6, false), (7, false), (8, false), (9, false), (10, false), (11, false), (12, false), (13, false), (14, false), (15, false)] (fun wS => Below wr.heap.size wr wS) (by kernel_rfl) (by kernel_rfl) (by kernel_rfl) (Below.refl _ _).drew ?_
        repeat (first | (refine' flow2_pass (o := _) rfl _ _; (focus rfl); simp only [Act.put, List.setIfInBounds_toArray, List.set_cons_zero, List.set_cons_succ]) | (refine' flow2_take (v := _) (o := _) rfl _ _ _; rotate_left; (focus rfl); (focus (intro wS hS; have hE := Ext.refl wS; (skip); go_simp; try (with_reducible (first | exact ⟨rfl, hS, hE⟩ | rfl)); done)); simp only [Act.put, List.setIfInBounds_toArray, List.set_cons_zero, List.set_cons_succ]))
        refine flow2_nil ?_
        intro wT hE hS
        have HT := Lib.hid (HQ.out.trans (hS.mono HQ.out.size))
        clear hE hS
        go_wp2_with fail
        go_roundw
        case rel => exact ⟨k + 1, by omega, by go_num, (by obtain rfl : k = 0 := (by omega); exact HN.out), HT.out⟩
        case measure => simp [intOf]; omega
    · have hltI : ¬ (k : Int) < (l.length : Int) := by omega
      obtain rfl : k = l.length := by omega
      have HS2 := HS.out
      rw [List.take_length] at HS2
      have HS3 := Lib.hid HS2
      clear HS2
      go_wp2_with fail
      go_returns
      exact ⟨true, rfl, ⟨fun _ => HS3.out, fun _ => rfl⟩, HQ.out⟩
set_option maxHeartbeats 8000000 in
theorem ri_Bl {l : List Bl} {v : Value} {B : Nat} {w : World} (h : Rs w B v l) :
    Calls Tryz.prog 62 #[v, .func (.func 47) #[] #[]] w (IsV (Srt kB lB l) w) := by
  obtain ⟨A, cap, rfl, hlc, hcap⟩ := h.any
  have HR := Lib.hid h
  clear h
  have hm63 : maxLen = 9223372036854775807 := rfl
  go_enter Tryz.func62, Tryz.ntmps62
  go_wp2_with fail
  go_loopw [8] (fun i wq => ∃ k : Nat, k ≤ l.length ∧ i = .int .i64 k ∧ Srt kB lB (l.take k) ∧ Below w.heap.size w wq) (fun i _ => l.length - (intOf i).toNat)
  case atStart => exact ⟨0, by omega, rfl, .nil, Below.refl _ _⟩
  case round =>
    obtain ⟨k, hk, rfl, hs, hbq⟩ := hrel
    have HQ := Lib.hid hbq
    have HS := Lib.hid hs
    clear hbq hs
    by_cases hlt : k < l.length
    · have hltI : (k : Int) < (l.length : Int) := by omega
      by_cases h0 : 0 < k
      · have h0I : (0 : Int) < (k : Int) := by omega
        have hp : k - 1 < l.length := by omega
        obtain ⟨b, off, cap', he, _, _⟩ := HR.out.shape (by omega)
        cases he
        have HE := Lib.hid (rangeAt_below (HR.out.range hlt) (HR.out.lt2 (by omega) b rfl) HQ.out)
        have HE1 := Lib.hid (rangeAt_below (HR.out.range hp) (HR.out.lt2 (by omega) b rfl) HQ.out)
        have HBL := Lib.hid (Nat.lt_of_lt_of_le (HR.out.lt2 (by omega) b rfl) HQ.out.size)
        have HN := Lib.hid (fun hx => srt_next lB_lin hlt h0 hx HS.out)
        have HB0 := Lib.hid (fun hx => srt_break (k := kB) (lt := lB) hlt h0 hx)
        obtain ⟨j, hj⟩ : ∃ j : Nat, j = k - 1 := ⟨_, rfl⟩
        have hjI : IntKind.i64.wrap ((k : Int) - 1) = (j : Int) := by rw [IntWalk.i64_in _ (by omega)]; omega
        have hjlI : (j : Int) < (l.length : Int) := by omega
        have hjl : j < l.length := by omega
        simp only [← hj] at HE1 HN HB0
        have H3 := Lib.hid (c3_geq (lt := lB) (kB (l[j]'hjl)) (kB l[k]))
        generalize (l[j]'hjl) = xj at HE1 HN HB0 H3
        generalize (l[k]'hlt) = xk at HE HN HB0 H3
        clear hj
        go_wp2_with fail
        refine wp_region_flow2_lit [(0, false), (1, false), (2, false), (3, false), (4, false), (5, false), (6, false), (7, false), (8, false), (9, false), (10, false), (11, false), (12, false), (13, false), (14, false), (15, false)] (fun wS => Below wr.heap.size wr wS) (by kernel_rfl) (by kernel_rfl) (by kernel_rfl) (Below.refl _ _).drew ?_
        repeat (first | (refine' flow2_pass (o := _) rfl _ _; (focus rfl); simp only [Act.put, List.setIfInBounds_toArray, List.set_cons_zero, List.set_cons_succ]) | (refine' flow2_take (v := _) (o := _) rfl _ _ _; rotate_left; (focus rfl); (focus (intro wS hS; have hE := Ext.refl wS; (skip); go_simp; try (with_reducible (first | exact ⟨rfl, hS, hE⟩ | rfl)); done)); simp only [Act.put, List.setIfInBounds_toArray, List.set_cons_zero, List.set_cons_succ]))
        (refine flow2_take (v := .agg (arr xj)) (o := _) rfl rfl (fun wS hS => gives_row rfl rfl (rangeAt_below HE1.out HBL.out hS) ⟨hS, Ext.refl wS⟩) ?_; simp only [Act.put, List.setIfInBounds_toArray, List.set_cons_zero, List.set_cons_succ])
        repeat (first | (refine' flow2_pass (o := _) rfl _ _; (focus rfl); simp only [Act.put, List.setIfInBounds_toArray, List.set_cons_zero, List.set_cons_succ]) | (refine' flow2_take (v := _) (o := _) rfl _ _ _; rotate_left; (focus rfl); (focus (intro wS hS; have hE := Ext.refl wS; (skip); go_simp; try (with_reducible (first | exact ⟨rfl, hS, hE⟩ | rfl)); done)); simp only [Act.put, List.setIfInBounds_toArray, List.set_cons_zero, List.set_cons_succ]))
        (refine flow2_take (v := .agg (arr xk)) (o := _) rfl rfl (fun wS hS => gives_row rfl rfl (rangeAt_below HE.out HBL.out hS) ⟨hS, Ext.refl wS⟩) ?_; simp only [Act.put, List.setIfInBounds_toArray, List.set_cons_zero, List.set_cons_succ])
        (refine' flow2_take (v := _) (o := _) rfl _ _ _; rotate_left; (focus rfl); (focus (intro wS hS; go_simp; refine (placed_any _ _ _).mono ?_; rintro e w' ⟨rfl, hb⟩; refine ⟨?_, hS.trans (hb.mono hS.size), hb⟩; rfl)); simp only [Act.put, List.setIfInBounds_toArray, List.set_cons_zero, List.set_cons_succ])
        repeat (first | (refine' flow2_pass (o := _) rfl _ _; (focus rfl); simp only [Act.put, List.setIfInBounds_toArray, List.set_cons_zero, List.set_cons_succ]) | (refine' flow2_take (v := _) (o := _) rfl _ _ _; rotate_left; (focus rfl); (focus (intro wS hS; have hE := Ext.refl wS; (skip); go_simp; try (with_reducible (first | exact ⟨rfl, hS, hE⟩ | rfl)); done)); simp only [Act.put, List.setIfInBounds_toArray, List.set_cons_zero, List.set_cons_succ]))
        refine flow2_nil ?_
        intro wT hE hS
        have HT := Lib.hid (HQ.out.trans (hS.mono HQ.out.size))
        clear hE hS
        cases hx : lB (kB xj) (kB xk) with
        | true =>
          have h3 : ¬ 0 ≤ c3 lB (kB xj) (kB xk) := of_decide_eq_false (H3.out.trans (by rw [hx]; rfl))
          have HN2 := Lib.hid (HN.out hx)
          clear hx
          go_wp2_with fail
          go_roundw
          case rel => exact ⟨k + 1, by omega, by go_num, HN2.out, HT.out⟩
          case measure => simp [intOf]; omega
        | false =>
          have h3 : 0 ≤ c3 lB (kB xj) (kB xk) := of_decide_eq_true (H3.out.trans (by rw [hx]; rfl))
          have HB2 := Lib.hid (HB0.out hx)
          clear hx
          go_wp2_with fail
          go_returns
          exact ⟨false, rfl, ⟨fun h => (nomatch h), fun h => absurd h HB2.out⟩, HT.out⟩
      · have h0I : ¬ (0 : Int) < (k : Int) := by omega
        have HN := Lib.hid (srt_first (k := kB) (lt := lB) (l := l) (by omega))
        go_wp2_with fail
        refine wp_region_flow2_lit [(0, false), (1, false), (2, false), (3, false), (4, false), (5, false), (6, false), (7, false), (8, false), (9, false), (10, false), (11, false), (12, false), (13, false), (14, false), (15, false)] (fun wS => Below wr.heap.size wr wS) (by kernel_rfl) (by kernel_rfl) (by kernel_rfl) (Below.refl _ _).drew ?_
        repeat (first | (refine' flow2_pass (o := _) rfl _ _; (focus rfl); simp only [Act.put, List.setIfInBounds_toArray, List.set_cons_zero, List.set_cons_succ]) | (refine' flow2_take (v := _) (o := _) rfl _ _ _; rotate_left; (focus rfl); (focus (intro wS hS; have hE := Ext.refl wS; (skip); go_simp; try (with_reducible (first | exact ⟨rfl, hS, hE⟩ | rfl)); done)); simp only [Act.put, List.setIfInBounds_toArray, List.set_cons_zero, List.set_cons_succ]))
        refine flow2_nil ?_
        intro wT hE hS
        have HT := Lib.hid (HQ.out.trans (hS.mono HQ.out.size))
        clear hE hS
        go_wp2_with fail
        go_roundw
        case rel => exact ⟨k + 1, by omega, by go_num, (by obtain rfl : k = 0 := (by omega); exact HN.out), HT.out⟩
        case measure => simp [intOf]; omega
    · have hltI : ¬ (k : Int) < (l.length : Int) := by omega
      obtain rfl : k = l.length := by omega
      have HS2 := HS.out
      rw [List.take_length] at HS2
      have HS3 := Lib.hid HS2
      clear HS2
      go_wp2_with fail
      go_returns
      exact ⟨true, rfl, ⟨fun _ => HS3.out, fun _ => rfl⟩, HQ.out⟩
set_option maxHeartbeats 8000000 in
theorem un_Hd {l : List Hd} {v : Value} {w : World} (h : Rs w 0 v l) (hlen : l.length ≤ 1000) (hok : ∀ x ∈ l, UHd.kok x.up) :
    Calls Tryz.prog 63 #[v, .func (.func 64) #[] #[]] w (IsV ((l.map (·.up)).Nodup) w) := by
  obtain ⟨A, cap, rfl, hlc, hcap⟩ := h.any
  have HR := Lib.hid h
  have HOK := Lib.hid hok
  have HMK := Lib.hid (World.ownsMap_made w Tryz.prog 9 heldR)
  have hmm := @run_makeMap Tryz.prog
  clear h hok
  have hm63 : maxLen = 9223372036854775807 := rfl
  go_enter Tryz.func63, Tryz.ntmps63
  go_wp2_with fail
  go_loopw [13] (fun i wq => ∃ k : Nat, k ≤ l.length ∧ i = .int .i64 k ∧ UHd.SetP wq w.heap.size ((l.take k).map (·.up)) ∧ ((l.take k).map (·.up)).Nodup ∧ Below w.heap.size w wq) (fun i _ => l.length - (intOf i).toNat)
  case atStart => exact ⟨0, by omega, rfl, ⟨_, HMK.out, fun k => rfl⟩, .nil, by go_grown⟩
  case round =>
    obtain ⟨k, hk, rfl, hsp, hnd, hbq⟩ := hrel
    have HQ := Lib.hid hbq
    have HS := Lib.hid hsp
    have HD := Lib.hid hnd
    clear hbq hsp hnd
    by_cases hlt : k < l.length
    · have hltI : (k : Int) < (l.length : Int) := by omega
      obtain ⟨b, off, cap', he, _, _⟩ := HR.out.shape (by omega)
      cases he
      have HE := Lib.hid (rangeAt_below (HR.out.range hlt) (HR.out.lt2 (by omega) b rfl) HQ.out)
      have HT : Hid ((l.take (k + 1)).map (·.up) = (l.take k).map (·.up) ++ [l[k].up]) := Lib.hid (by rw [List.take_succ_eq_append_getElem hlt, List.map_append]; rfl)
      have HKO := Lib.hid (HOK.out _ (List.getElem_mem hlt))
      have HNO : Hid (inS ((l.take k).map (·.up)) l[k].up = true → ¬ (l.map (·.up)).Nodup) := Lib.hid (in_twice hlt)
      have HYE : Hid (inS ((l.take k).map (·.up)) l[k].up = false → ((l.take k).map (·.up) ++ [l[k].up]).Nodup) := Lib.hid (fun hx => nodup_one HD.out hx)
      have HSL : Hid (((l.take k).map (·.up)).length < 1000000) := Lib.hid (by rw [List.length_map, List.length_take]; omega)
      generalize (l.take k).map (·.up) = S at *
      generalize l[k] = x at *
      go_wp2_with (first
        | (refine rw_alloc (α := Hd) rfl rfl ?_)
        | (refine rw_store (α := Hd) rfl (.tmp 7) (.tmp 17) rfl wr.heap.size x _ (arr_size _) rfl rfl (heap_alloc_new _ _) ?_; intro w5 hb5 hg5 hs5; have HX := Lib.hid hb5; have HB5 := Lib.hid (bel_box'.grown hg5 bel_box'.size (fun j hj => by cases hj; exact Nat.le_refl _)); clear hb5 hg5 hs5)
        | (refine rw_load (α := Hd) rfl (.tmp 16) rfl b (off + k * 3) rfl x HE.out ?_)
        | (refine rw_load (α := Hd) rfl (.tmp 7) rfl wr.heap.size 0 rfl x (range_row HX.out) ?_))
      refine (uof_Hd x _).mono ?_
      rintro e w1 ⟨rfl, hb1⟩
      have HS1 := Lib.hid ((HS.out.of (HB5.out.block _ HS.out.lt)).of (hb1.block _ (Nat.lt_of_lt_of_le HS.out.lt HB5.out.size)))
      have HQ1 := Lib.hid (HQ.out.trans ((HB5.out.trans (hb1.mono HB5.out.size)).mono HQ.out.size))
      obtain ⟨v, hlook⟩ := HS1.out.look HKO.out
      have HX1 := Lib.hid ((hb1.block _ (heap_lt HX.out)).trans HX.out)
      clear hb1
      generalize inS S x.up = r at *
      cases r with
      | true =>
        have HN2 := Lib.hid (HNO.out rfl)
        clear HNO HYE
        go_wp2_with fail
        go_returns
        exact ⟨false, rfl, ⟨fun h => (nomatch h), fun h => absurd h HN2.out⟩, HQ1.out⟩
      | false =>
        have HY2 := Lib.hid (HYE.out rfl)
        clear HNO HYE
        go_wp2_with (first
          | (refine rw_load (α := Hd) rfl (.tmp 7) rfl wr.heap.size 0 rfl x (range_row HX1.out) ?_))
        refine (uof_Hd x _).mono ?_
        rintro e w2 ⟨rfl, hb2⟩
        have HS2 := Lib.hid (HS1.out.of (hb2.block _ HS1.out.lt))
        have HQ2 := Lib.hid (HQ1.out.trans (hb2.mono HQ1.out.size))
        obtain ⟨w3, hput, hs3, ht3⟩ := HS2.out.put HKO.out HSL.out (.int .i64 k)
        have HS3 := Lib.hid hs3
        have HQ3 := Lib.hid (HQ2.out.grown ht3.grown HQ2.out.size (fun j hj => by cases hj; exact Nat.le_refl _))
        clear hb2 hs3 ht3 hlook
        go_wp2_with fail
        go_roundw
        case rel => exact ⟨k + 1, by omega, by go_num, by rw [HT.out]; exact HS3.out, by rw [HT.out]; exact HY2.out, HQ3.out⟩
        case measure => simp [intOf]; omega
    · have hltI : ¬ (k : Int) < (l.length : Int) := by omega
      obtain rfl : k = l.length := by omega
      have HD2 := HD.out
      rw [List.take_length] at HD2
      have HD3 := Lib.hid HD2
      clear HD2
      go_wp2_with fail
      go_returns
      exact ⟨true, rfl, ⟨fun _ => HD3.out, fun _ => rfl⟩, HQ.out⟩
set_option maxHeartbeats 8000000 in
theorem un_Bl {l : List Bl} {v : Value} {w : World} (h : Rs w 0 v l) (hlen : l.length ≤ 1000) (hok : ∀ x ∈ l, UBl.kok x.sl) :
    Calls Tryz.prog 65 #[v, .func (.func 66) #[] #[]] w (IsV ((l.map (·.sl)).Nodup) w) := by
  obtain ⟨A, cap, rfl, hlc, hcap⟩ := h.any
  have HR := Lib.hid h
  have HOK := Lib.hid hok
  have HMK := Lib.hid (World.ownsMap_made w Tryz.prog 3 heldR)
  have hmm := @run_makeMap Tryz.prog
  clear h hok
  have hm63 : maxLen = 9223372036854775807 := rfl
  go_enter Tryz.func65, Tryz.ntmps65
  go_wp2_with fail
  go_loopw [13] (fun i wq => ∃ k : Nat, k ≤ l.length ∧ i = .int .i64 k ∧ UBl.SetP wq w.heap.size ((l.take k).map (·.sl)) ∧ ((l.take k).map (·.sl)).Nodup ∧ Below w.heap.size w wq) (fun i _ => l.length - (intOf i).toNat)
  case atStart => exact ⟨0, by omega, rfl, ⟨_, HMK.out, fun k => rfl⟩, .nil, by go_grown⟩
  case round =>
    obtain ⟨k, hk, rfl, hsp, hnd, hbq⟩ := hrel
    have HQ := Lib.hid hbq
    have HS := Lib.hid hsp
    have HD := Lib.hid hnd
    clear hbq hsp hnd
    by_cases hlt : k < l.length
    · have hltI : (k : Int) < (l.length : Int) := by omega
      obtain ⟨b, off, cap', he, _, _⟩ := HR.out.shape (by omega)
      cases he
      have HE := Lib.hid (rangeAt_below (HR.out.range hlt) (HR.out.lt2 (by omega) b rfl) HQ.out)
      have HT : Hid ((l.take (k + 1)).map (·.sl) = (l.take k).map (·.sl) ++ [l[k].sl]) := Lib.hid (by rw [List.take_succ_eq_append_getElem hlt, List.map_append]; rfl)
      have HKO := Lib.hid (HOK.out _ (List.getElem_mem hlt))
      have HNO : Hid (inS ((l.take k).map (·.sl)) l[k].sl = true → ¬ (l.map (·.sl)).Nodup) := Lib.hid (in_twice hlt)
      have HYE : Hid (inS ((l.take k).map (·.sl)) l[k].sl = false → ((l.take k).map (·.sl) ++ [l[k].sl]).Nodup) := Lib.hid (fun hx => nodup_one HD.out hx)
      have HSL : Hid (((l.take k).map (·.sl)).length < 1000000) := Lib.hid (by rw [List.length_map, List.length_take]; omega)
      generalize (l.take k).map (·.sl) = S at *
      generalize l[k] = x at *
      go_wp2_with (first
        | (refine rw_alloc (α := Bl) rfl rfl ?_)
        | (refine rw_store (α := Bl) rfl (.tmp 7) (.tmp 17) rfl wr.heap.size x _ (arr_size _) rfl rfl (heap_alloc_new _ _) ?_; intro w5 hb5 hg5 hs5; have HX := Lib.hid hb5; have HB5 := Lib.hid (bel_box'.grown hg5 bel_box'.size (fun j hj => by cases hj; exact Nat.le_refl _)); clear hb5 hg5 hs5)
        | (refine rw_load (α := Bl) rfl (.tmp 16) rfl b (off + k * 3) rfl x HE.out ?_)
        | (refine rw_load (α := Bl) rfl (.tmp 7) rfl wr.heap.size 0 rfl x (range_row HX.out) ?_))
      refine (uof_Bl x _).mono ?_
      rintro e w1 ⟨rfl, hb1⟩
      have HS1 := Lib.hid ((HS.out.of (HB5.out.block _ HS.out.lt)).of (hb1.block _ (Nat.lt_of_lt_of_le HS.out.lt HB5.out.size)))
      have HQ1 := Lib.hid (HQ.out.trans ((HB5.out.trans (hb1.mono HB5.out.size)).mono HQ.out.size))
      obtain ⟨v, hlook⟩ := HS1.out.look HKO.out
      have HX1 := Lib.hid ((hb1.block _ (heap_lt HX.out)).trans HX.out)
      clear hb1
      generalize inS S x.sl = r at *
      cases r with
      | true =>
        have HN2 := Lib.hid (HNO.out rfl)
        clear HNO HYE
        go_wp2_with fail
        go_returns
        exact ⟨false, rfl, ⟨fun h => (nomatch h), fun h => absurd h HN2.out⟩, HQ1.out⟩
      | false =>
        have HY2 := Lib.hid (HYE.out rfl)
        clear HNO HYE
        go_wp2_with (first
          | (refine rw_load (α := Bl) rfl (.tmp 7) rfl wr.heap.size 0 rfl x (range_row HX1.out) ?_))
        refine (uof_Bl x _).mono ?_
        rintro e w2 ⟨rfl, hb2⟩
        have HS2 := Lib.hid (HS1.out.of (hb2.block _ HS1.out.lt))
        have HQ2 := Lib.hid (HQ1.out.trans (hb2.mono HQ1.out.size))
        obtain ⟨w3, hput, hs3, ht3⟩ := HS2.out.put HKO.out HSL.out (.int .i64 k)
        have HS3 := Lib.hid hs3
        have HQ3 := Lib.hid (HQ2.out.grown ht3.grown HQ2.out.size (fun j hj => by cases hj; exact Nat.le_refl _))
        clear hb2 hs3 ht3 hlook
        go_wp2_with fail
        go_roundw
        case rel => exact ⟨k + 1, by omega, by go_num, by rw [HT.out]; exact HS3.out, by rw [HT.out]; exact HY2.out, HQ3.out⟩
        case measure => simp [intOf]; omega
    · have hltI : ¬ (k : Int) < (l.length : Int) := by omega
      obtain rfl : k = l.length := by omega
      have HD2 := HD.out
      rw [List.take_length] at HD2
      have HD3 := Lib.hid HD2
      clear HD2
      go_wp2_with fail
      go_returns
      exact ⟨true, rfl, ⟨fun _ => HD3.out, fun _ => rfl⟩, HQ.out⟩
theorem cn_any {l : List Nm} {v : Value} {B B' : Nat} {w : World} {g : Nat} {lb : Array Value} {p : Nm → Bool} (hp : PB B w g lb p) (hB : B ≤ w.heap.size) (h : Rs w B' v l) :
    Calls Tryz.prog 67 #[v, .func (.func g) #[] lb] w fun e w' => e = .returned (.bool (l.any p)) ∧ Below w.heap.size w w' := by
  have HIX := Lib.hid (ix_Nm hp hB h)
  obtain ⟨A, cap, hv, hlc, hcap⟩ := h.any
  subst hv
  clear hp h
  go_enter Tryz.func67, Tryz.ntmps67
  go_wp2_with fail
  refine HIX.out.mono ?_
  rintro e w1 ⟨i0, rfl, hb1, hcase⟩
  have HB1 := Lib.hid hb1
  clear hb1
  rcases hcase with ⟨rfl, hno⟩ | ⟨j, hj, rfl, hpj, hno⟩
  · have HF : Hid (l.any p = false) := Lib.hid (by rw [List.any_eq_false]; intro x hx; rw [hno x hx]; simp)
    clear hno
    go_wp2_with fail
    go_ret
    rw [HF.out]
    exact ⟨rfl, HB1.out⟩
  · have HF : Hid (l.any p = true) := Lib.hid (List.any_eq_true.2 ⟨l[j], List.getElem_mem hj, hpj⟩)
    clear hno hpj
    go_wp2_with fail
    go_ret
    rw [HF.out]
    exact ⟨rfl, HB1.out⟩
theorem stray_any {c : Ca} {cv : Cv} {w : World} {b : Nat} (hb : w.heap[b]? = some (.cells (arr cv) 30)) (h : CaAt w cv c) (hs : Srt kF lF c.fs) (u : ByteArray) :
    Calls Tryz.prog 56 #[.string u, .pointer (some ⟨b, 0, none⟩)] w fun e w' => e = .returned (.bool (noF c u)) ∧ Below w.heap.size w w' := by
  have HX := Lib.hid hb
  have HF := Lib.hid (file_any h hs u)
  clear hb h hs
  unfold noF
  generalize (find kF c.fs u).isSome = r at HF ⊢
  generalize ((find kF c.fs u).getD RowT.z).a = y at HF ⊢
  go_enter Tryz.func56, Tryz.ntmps56
  go_wp2_with (refine rw_load (α := Cv) rfl (.tmp 1) rfl b 0 rfl cv (range_row HX.out) ?_)
  refine HF.out.mono ?_
  rintro e w1 ⟨rfl, hb1⟩
  have HB1 := Lib.hid hb1
  clear hb1
  go_wp2_with (refine rw_put (α := At) _ 4 (.tmp 10) rfl rfl rfl rfl rfl rfl y rfl rfl ?_)
  go_ret
  exact ⟨rfl, HB1.out.trans (bel_box.mono HB1.out.size)⟩
structure Stray (w : World) (b s : Nat) (cv : Cv) (c : Ca) : Prop where
  box : w.heap[b]? = some (.cells (arr cv) 30)
  cell : w.heap[s]? = some (.cells #[.func (.func 56) #[] #[.pointer (some ⟨b, 0, none⟩)]] 93)
  ca : CaAt w cv c
theorem Stray.below {w w' : World} {b s : Nat} {cv : Cv} {c : Ca} (h : Stray w b s cv c) (hb : Below w.heap.size w w') : Stray w' b s cv c :=
  ⟨(hb.block _ (heap_lt h.box)).trans h.box, (hb.block _ (heap_lt h.cell)).trans h.cell, h.ca.below hb⟩
theorem check5_pb {w : World} {b s : Nat} {cv : Cv} {c : Ca} (h : Stray w b s cv c) (hs : Srt kF lF c.fs) : PB w.heap.size w 68 #[.pointer (some ⟨s, 0, none⟩)] (fun y : Nm => noF c y.dir) := by
  refine ⟨fun args w => enters_of Tryz.func68 (by kernel_rfl) rfl args w, fun W y hW => ?_⟩
  have hW2 : Below w.heap.size w (W.alloc (.cells (arr y) 54)) := hW.trans (bel_box.mono hW.size)
  have hh := h.below hW2
  have s0 : (W.alloc (.cells (arr y) 54)).cell? ⟨s, 0, none⟩ = some (.func (.func 56) #[] #[.pointer (some ⟨b, 0, none⟩)]) := by rw [row_cell hh.cell]; rfl
  have y0 : (W.alloc (.cells (arr y) 54)).cell? ⟨W.heap.size, 0, none⟩ = some (.string y.dir) := by rw [row_cell (heap_alloc_new W _)]; rfl
  have HS := Lib.hid (stray_any hh.box hh.ca hs y.dir)
  have HB : Hid (Below W.heap.size W (W.alloc (.cells (arr y) 54))) := Lib.hid (by go_grown)
  have eg : ∀ args w, (callFunc 56 args).run Tryz.prog w = .ok (.enter 56 args) w := fun args w => enters_of Tryz.func56 (by kernel_rfl) rfl args w
  clear hh hW2 hW h hs
  generalize noF c y.dir = r at HS ⊢
  show Calls _ _ #[.agg (arr y), .pointer (some ⟨s, 0, none⟩)] _ _
  go_enter Tryz.func68, Tryz.ntmps68
  go_wp2_with fail
  refine HS.out.mono ?_
  rintro e w1 ⟨rfl, hb1⟩
  have HB1 := Lib.hid (HB.out.trans (hb1.mono HB.out.size))
  clear hb1
  go_wp2_with fail
  go_ret
  exact ⟨rfl, HB1.out⟩
theorem check6_pb {w : World} {b s : Nat} {cv : Cv} {c : Ca} (h : Stray w b s cv c) (hs : Srt kF lF c.fs) : PB w.heap.size w 70 #[.pointer (some ⟨s, 0, none⟩)] (fun y : Bl => noF c y.up) := by
  refine ⟨fun args w => enters_of Tryz.func70 (by kernel_rfl) rfl args w, fun W y hW => ?_⟩
  have hW2 : Below w.heap.size w (W.alloc (.cells (arr y) 59)) := hW.trans (bel_box.mono hW.size)
  have hh := h.below hW2
  have s0 : (W.alloc (.cells (arr y) 59)).cell? ⟨s, 0, none⟩ = some (.func (.func 56) #[] #[.pointer (some ⟨b, 0, none⟩)]) := by rw [row_cell hh.cell]; rfl
  have y0 : (W.alloc (.cells (arr y) 59)).cell? ⟨W.heap.size, 0, none⟩ = some (.string y.up) := by rw [row_cell (heap_alloc_new W _)]; rfl
  have HS := Lib.hid (stray_any hh.box hh.ca hs y.up)
  have HB : Hid (Below W.heap.size W (W.alloc (.cells (arr y) 59))) := Lib.hid (by go_grown)
  have eg : ∀ args w, (callFunc 56 args).run Tryz.prog w = .ok (.enter 56 args) w := fun args w => enters_of Tryz.func56 (by kernel_rfl) rfl args w
  clear hh hW2 hW h hs
  generalize noF c y.up = r at HS ⊢
  show Calls _ _ #[.agg (arr y), .pointer (some ⟨s, 0, none⟩)] _ _
  go_enter Tryz.func70, Tryz.ntmps70
  go_wp2_with fail
  refine HS.out.mono ?_
  rintro e w1 ⟨rfl, hb1⟩
  have HB1 := Lib.hid (HB.out.trans (hb1.mono HB.out.size))
  clear hb1
  go_wp2_with fail
  go_ret
  exact ⟨rfl, HB1.out⟩
set_option maxHeartbeats 32000000 in
theorem ichanges_any {c : Ca} {cv : Cv} {w : World} (h : CaAt w cv c) (hf : Few c 100) :
    Calls Tryz.prog 25 #[.agg (arr cv)] w fun r w' => ∃ v', r = .returned v' ∧ Go.Proofs.YtokhnbdhcehonaaGreat.Rs w' 0 v' (chgC c) ∧ Below w.heap.size w w' := by
  obtain ⟨Wb, hW⟩ : ∃ Wb, Wb = w.alloc (.cells (arr cv) 30) := ⟨_, rfl⟩
  have hb0 : Below w.heap.size w Wb := by rw [hW]; exact bel_box
  have HX : Hid (Wb.heap[w.heap.size]? = some (.cells (arr cv) 30)) := Lib.hid (by rw [hW]; exact heap_alloc_new _ _)
  have HCA := Lib.hid (h.below hb0)
  have HB := Lib.hid hb0
  have HW := Lib.hid hW
  have HFW := Lib.hid hf
  have HRH := HCA.out.hs
  have HRF := HCA.out.fs
  have HRN := HCA.out.ns
  have HRB := HCA.out.bs
  obtain ⟨A1, p1, hv1, q1, _⟩ := HRH.any
  obtain ⟨A2, p2, hv2, q2, _⟩ := HRF.any
  obtain ⟨A3, p3, hv3, q3, _⟩ := HRN.any
  obtain ⟨A4, p4, hv4, q4, _⟩ := HRB.any
  rw [hv1] at HRH
  rw [hv2] at HRF
  rw [hv3] at HRN
  rw [hv4] at HRB
  have HRH := Lib.hid HRH
  have HRF := Lib.hid HRF
  have HRN := Lib.hid HRN
  have HRB := Lib.hid HRB
  have HCC : Hid (∀ wS, Below Wb.heap.size Wb wS → wS.cell? ⟨w.heap.size, 0, none⟩ = some (.slice A1 c.hs.length p1) ∧ wS.cell? ⟨w.heap.size, 1, none⟩ = some (.slice A2 c.fs.length p2) ∧ wS.cell? ⟨w.heap.size, 2, none⟩ = some (.slice A3 c.ns.length p3) ∧ wS.cell? ⟨w.heap.size, 3, none⟩ = some (.slice A4 c.bs.length p4)) := Lib.hid (fun wS hS => by
    have := cv_cells ((hS.block _ (heap_lt HX.out)).trans HX.out)
    rwa [hv1, hv2, hv3, hv4] at this)
  have L1 := hf.hs
  have L2 := hf.fs
  have L3 := hf.ns
  have L4 := hf.bs
  clear h hb0 hW hf hv1 hv2 hv3 hv4
  have HCG : Hid (chgC c = c.hs.map hdC ++ c.fs.map flC ++ c.ns.map nmC ++ c.bs.map blC) := Lib.hid rfl
  generalize c.hs = lh at *
  generalize c.fs = lf at *
  generalize c.ns = ln at *
  generalize c.bs = lb at *
  have hm63 : maxLen = 9223372036854775807 := rfl
  obtain ⟨c0, c1, c2, c3⟩ := HCC.out Wb (Below.refl _ _)
  rw [HW.out] at c0 c1 c2 c3
  go_enter Tryz.func25, Tryz.ntmps25
  go_wp2_with fail
  rw [← HW.out]
  go_loopw [3, 15] (fun vo i wq => ∃ k : Nat, k ≤ lh.length ∧ i = .int .i64 k ∧ Ou Wb wq vo ((lh.take k).map hdC)) (fun _ i _ => lh.length - (intOf i).toNat)
  case atStart => exact ⟨0, by omega, rfl, .start Wb⟩
  case round =>
    obtain ⟨k, hk, rfl, hou⟩ := hrel
    have HO := Lib.hid hou
    clear hou
    by_cases hlt : k < lh.length
    · have hltI : (k : Int) < (lh.length : Int) := by omega
      obtain ⟨b, off, cap', he, _, _⟩ := HRH.out.shape (by omega)
      cases he
      have HE := Lib.hid (rangeAt_below (HRH.out.range hlt) (HRH.out.lt2 (by omega) b rfl) HO.out.bl)
      have HN := Lib.hid (map_next hdC hlt)
      have HO2 := Lib.hid (HO.out.below (bel_box (o := .cells (arr lh[k]) (RowT.T Hd))))
      have d0 : (wr.alloc (.cells (arr lh[k]) (RowT.T Hd))).cell? ⟨wr.heap.size, 0, none⟩ = some (.int .i64 lh[k].e) := by rw [row_cell (heap_alloc_new wr _)]; rfl
      have d1 : (wr.alloc (.cells (arr lh[k]) (RowT.T Hd))).cell? ⟨wr.heap.size, 1, none⟩ = some (.int .i64 lh[k].s) := by rw [row_cell (heap_alloc_new wr _)]; rfl
      have d2 : (wr.alloc (.cells (arr lh[k]) (RowT.T Hd))).cell? ⟨wr.heap.size, 2, none⟩ = some (.string lh[k].up) := by rw [row_cell (heap_alloc_new wr _)]; rfl
      go_wp2_with (first
        | (refine rw_put (α := Hd) _ 5 (.tmp 18) rfl rfl rfl rfl rfl rfl lh[k] rfl rfl ?_)
        | (refine rw_load (α := Hd) rfl (.tmp 17) rfl b (off + k * 3) rfl lh[k] HE.out ?_)
        | (refine rw_app1 (α := Ch) HO2.out (by simp; omega) (by decide) _ 27 (.tmp 19) (.tmp 26) rfl rfl rfl rfl rfl (hdC lh[k]) rfl rfl rfl ?_; intro v1 w1 h1; have H1 := Lib.hid h1; clear h1))
      go_roundw
      case rel => exact ⟨k + 1, by omega, by go_num, by rw [HN.out]; exact H1.out⟩
      case measure => simp [intOf]; omega
    · have hltI : ¬ (k : Int) < (lh.length : Int) := by omega
      obtain rfl : k = lh.length := by omega
      have ho := HO.out
      rw [List.take_length] at ho
      have HO1 := Lib.hid ho
      clear ho HO
      obtain ⟨c0, c1, c2, c3⟩ := HCC.out wr HO1.out.bl
      go_wp2_with fail
      obtain ⟨w10, hw10⟩ : ∃ z, z = wr := ⟨_, rfl⟩
      subst hw10
      clear c0 c1 c2 c3
      go_loopw [3, 33] (fun vo i wq => ∃ k : Nat, k ≤ lf.length ∧ i = .int .i64 k ∧ Ou Wb wq vo ((lh.map hdC) ++ (lf.take k).map flC)) (fun _ i _ => lf.length - (intOf i).toNat)
      case atStart => exact ⟨0, by omega, rfl, (by simpa using HO1.out)⟩
      case round =>
        obtain ⟨k, hk, rfl, hou⟩ := hrel
        have HO := Lib.hid hou
        clear hou
        by_cases hlt : k < lf.length
        · have hltI : (k : Int) < (lf.length : Int) := by omega
          obtain ⟨b, off, cap', he, _, _⟩ := HRF.out.shape (by omega)
          cases he
          have HE := Lib.hid (rangeAt_below (HRF.out.range hlt) (HRF.out.lt2 (by omega) b rfl) HO.out.bl)
          have HN := Lib.hid (map_next flC hlt)
          have HO2 := Lib.hid (HO.out.below (bel_box (o := .cells (arr lf[k]) (RowT.T Fl))))
          have d0 : (wr.alloc (.cells (arr lf[k]) (RowT.T Fl))).cell? ⟨wr.heap.size, 0, none⟩ = some (.string lf[k].up) := by rw [row_cell (heap_alloc_new wr _)]; rfl
          have hca : (cells lf[k].a).length = 10 := Row.len lf[k].a
          go_wp2_with (first
            | (refine rw_put (α := Fl) _ 7 (.tmp 36) rfl rfl rfl rfl rfl rfl lf[k] rfl rfl ?_)
            | (refine rw_load (α := Fl) rfl (.tmp 35) rfl b (off + k * 11) rfl lf[k] HE.out ?_)
            | (refine rw_load (α := At) rfl (.tmp 40) rfl wr.heap.size 1 rfl lf[k].a (by simpa using fl_range2 (range_row (heap_alloc_new wr (.cells (arr lf[k]) (RowT.T Fl))))) ?_)
            | (refine rw_app1 (α := Ch) HO2.out (by simp; omega) (by decide) _ 43 (.tmp 37) (.tmp 42) rfl rfl rfl rfl rfl (flC lf[k]) (congrArg Value.agg (build_ch _ _)) rfl rfl ?_; intro v1 w1 h1; have H1 := Lib.hid h1; clear h1))
          go_roundw
          case rel => exact ⟨k + 1, by omega, by go_num, by rw [HN.out, ← List.append_assoc]; exact H1.out⟩
          case measure => simp [intOf]; omega
        · have hltI : ¬ (k : Int) < (lf.length : Int) := by omega
          obtain rfl : k = lf.length := by omega
          have ho := HO.out
          rw [List.take_length] at ho
          have HO2 := Lib.hid ho
          clear ho HO
          obtain ⟨c0, c1, c2, c3⟩ := HCC.out wr HO2.out.bl
          go_wp2_with fail
          obtain ⟨w20, hw20⟩ : ∃ z, z = wr := ⟨_, rfl⟩
          subst hw20
          clear c0 c1 c2 c3
          go_loopw [3, 49] (fun vo i wq => ∃ k : Nat, k ≤ ln.length ∧ i = .int .i64 k ∧ Ou Wb wq vo ((lh.map hdC ++ lf.map flC) ++ (ln.take k).map nmC)) (fun _ i _ => ln.length - (intOf i).toNat)
          case atStart => exact ⟨0, by omega, rfl, (by simpa using HO2.out)⟩
          case round =>
            obtain ⟨k, hk, rfl, hou⟩ := hrel
            have HO := Lib.hid hou
            clear hou
            by_cases hlt : k < ln.length
            · have hltI : (k : Int) < (ln.length : Int) := by omega
              obtain ⟨b, off, cap', he, _, _⟩ := HRN.out.shape (by omega)
              cases he
              have HE := Lib.hid (rangeAt_below (HRN.out.range hlt) (HRN.out.lt2 (by omega) b rfl) HO.out.bl)
              have HN := Lib.hid (map_next nmC hlt)
              have HO2 := Lib.hid (HO.out.below (bel_box (o := .cells (arr ln[k]) (RowT.T Nm))))
              have d0 : (wr.alloc (.cells (arr ln[k]) (RowT.T Nm))).cell? ⟨wr.heap.size, 0, none⟩ = some (.string ln[k].dir) := by rw [row_cell (heap_alloc_new wr _)]; rfl
              have d1 : (wr.alloc (.cells (arr ln[k]) (RowT.T Nm))).cell? ⟨wr.heap.size, 1, none⟩ = some (.string ln[k].name) := by rw [row_cell (heap_alloc_new wr _)]; rfl
              have d2 : (wr.alloc (.cells (arr ln[k]) (RowT.T Nm))).cell? ⟨wr.heap.size, 2, none⟩ = some (.string ln[k].up) := by rw [row_cell (heap_alloc_new wr _)]; rfl
              go_wp2_with (first
                | (refine rw_put (α := Nm) _ 9 (.tmp 52) rfl rfl rfl rfl rfl rfl ln[k] rfl rfl ?_)
                | (refine rw_load (α := Nm) rfl (.tmp 51) rfl b (off + k * 3) rfl ln[k] HE.out ?_)
                | (refine rw_app1 (α := Ch) HO2.out (by simp; omega) (by decide) _ 61 (.tmp 53) (.tmp 60) rfl rfl rfl rfl rfl (nmC ln[k]) rfl rfl rfl ?_; intro v1 w1 h1; have H1 := Lib.hid h1; clear h1))
              go_roundw
              case rel => exact ⟨k + 1, by omega, by go_num, by rw [HN.out, ← List.append_assoc]; exact H1.out⟩
              case measure => simp [intOf]; omega
            · have hltI : ¬ (k : Int) < (ln.length : Int) := by omega
              obtain rfl : k = ln.length := by omega
              have ho := HO.out
              rw [List.take_length] at ho
              have HO3 := Lib.hid ho
              clear ho HO
              obtain ⟨c0, c1, c2, c3⟩ := HCC.out wr HO3.out.bl
              go_wp2_with fail
              obtain ⟨w30, hw30⟩ : ∃ z, z = wr := ⟨_, rfl⟩
              subst hw30
              clear c0 c1 c2 c3
              go_loopw [3, 67] (fun vo i wq => ∃ k : Nat, k ≤ lb.length ∧ i = .int .i64 k ∧ Ou Wb wq vo ((lh.map hdC ++ lf.map flC ++ ln.map nmC) ++ (lb.take k).map blC)) (fun _ i _ => lb.length - (intOf i).toNat)
              case atStart => exact ⟨0, by omega, rfl, (by simpa using HO3.out)⟩
              case round =>
                obtain ⟨k, hk, rfl, hou⟩ := hrel
                have HO := Lib.hid hou
                clear hou
                by_cases hlt : k < lb.length
                · have hltI : (k : Int) < (lb.length : Int) := by omega
                  obtain ⟨b, off, cap', he, _, _⟩ := HRB.out.shape (by omega)
                  cases he
                  have HE := Lib.hid (rangeAt_below (HRB.out.range hlt) (HRB.out.lt2 (by omega) b rfl) HO.out.bl)
                  have HN := Lib.hid (map_next blC hlt)
                  have HO2 := Lib.hid (HO.out.below (bel_box (o := .cells (arr lb[k]) (RowT.T Bl))))
                  have d0 : (wr.alloc (.cells (arr lb[k]) (RowT.T Bl))).cell? ⟨wr.heap.size, 0, none⟩ = some (.string lb[k].up) := by rw [row_cell (heap_alloc_new wr _)]; rfl
                  have d1 : (wr.alloc (.cells (arr lb[k]) (RowT.T Bl))).cell? ⟨wr.heap.size, 1, none⟩ = some (.int .i64 lb[k].no) := by rw [row_cell (heap_alloc_new wr _)]; rfl
                  have d2 : (wr.alloc (.cells (arr lb[k]) (RowT.T Bl))).cell? ⟨wr.heap.size, 2, none⟩ = some (.int .i64 lb[k].sl) := by rw [row_cell (heap_alloc_new wr _)]; rfl
                  go_wp2_with (first
                    | (refine rw_put (α := Bl) _ 11 (.tmp 70) rfl rfl rfl rfl rfl rfl lb[k] rfl rfl ?_)
                    | (refine rw_load (α := Bl) rfl (.tmp 69) rfl b (off + k * 3) rfl lb[k] HE.out ?_)
                    | (refine rw_app1 (α := Ch) HO2.out (by simp; omega) (by decide) _ 79 (.tmp 71) (.tmp 78) rfl rfl rfl rfl rfl (blC lb[k]) rfl rfl rfl ?_; intro v1 w1 h1; have H1 := Lib.hid h1; clear h1))
                  go_roundw
                  case rel => exact ⟨k + 1, by omega, by go_num, by rw [HN.out, ← List.append_assoc]; exact H1.out⟩
                  case measure => simp [intOf]; omega
                · have hltI : ¬ (k : Int) < (lb.length : Int) := by omega
                  obtain rfl : k = lb.length := by omega
                  have ho := HO.out
                  rw [List.take_length] at ho
                  have HO4 := Lib.hid ho
                  clear ho HO
                  obtain ⟨c0, c1, c2, c3⟩ := HCC.out wr HO4.out.bl
                  go_wp2_with fail
                  go_ret
                  refine ⟨_, rfl, ?_, HB.out.trans (HO4.out.bl.mono HB.out.size)⟩
                  rw [HCG.out]
                  exact HO4.out.rs.mono (Nat.zero_le _)
set_option maxHeartbeats 16000000 in
theorem icheck_any {c : Ca} {cv : Cv} {w : World} (h : CaAt w cv c) (hf : Few c 100) (hoh : ∀ x ∈ c.hs, UHd.kok x.up) (hob : ∀ x ∈ c.bs, UBl.kok x.sl) :
    Calls Tryz.prog 29 #[.agg (arr cv)] w (IkV c w) := by
  obtain ⟨Wb, hW⟩ : ∃ Wb, Wb = (w.alloc (.cells (arr cv) 30)).alloc (.cells #[.func (.func 56) #[] #[.pointer (some ⟨w.heap.size, 0, none⟩)]] 93) := ⟨_, rfl⟩
  have hb0 : Below w.heap.size w Wb := by rw [hW]; go_grown
  have hst : Stray Wb w.heap.size (w.heap.size + 1) cv c := ⟨by rw [hW]; exact heap_old_at (heap_alloc_new _ _), by rw [hW]; exact heap_new_at _ _ (alloc_size _ _), h.below hb0⟩
  have HST := Lib.hid hst
  have HB := Lib.hid hb0
  have HW := Lib.hid hW
  have HF := Lib.hid hf
  have HOH := Lib.hid hoh
  have HOB := Lib.hid hob
  have hm63 : maxLen = 9223372036854775807 := rfl
  have hsf := run_store_func Tryz.prog
  obtain ⟨c0, c1, c2, c3⟩ := cv_cells HST.out.box
  rw [HW.out] at c0 c1 c2 c3
  clear h hf hoh hob hb0 hst hW
  go_enter Tryz.func29, Tryz.ntmps29
  go_wp2_with fail
  rw [← HW.out]
  clear c0 c1 c2 c3
  refine (ri_Hd HST.out.ca.hs).mono ?_
  rintro r w1 ⟨b1, rfl, hi1, hb1⟩
  have HST1 := Lib.hid (HST.out.below hb1)
  have HB1 := Lib.hid (HB.out.trans (hb1.mono HB.out.size))
  obtain ⟨c0, c1, c2, c3⟩ := cv_cells HST1.out.box
  clear hb1
  cases b1 with
  | false =>
    have HN : Hid (¬ Okc c) := Lib.hid (fun h => nomatch (hi1.2 h.ri.hs))
    clear hi1
    go_wp2_with fail
    go_ret
    exact .no rfl HN.out HB1.out
  | true =>
  have HP1 : Hid (Srt kH lH c.hs) := Lib.hid (hi1.1 rfl)
  clear hi1
  go_wp2_with fail
  clear c0 c1 c2 c3
  refine (ri_Fl HST1.out.ca.fs).mono ?_
  rintro r w2 ⟨b2, rfl, hi2, hb2⟩
  have HST2 := Lib.hid (HST1.out.below hb2)
  have HB2 := Lib.hid (HB1.out.trans (hb2.mono HB1.out.size))
  obtain ⟨c0, c1, c2, c3⟩ := cv_cells HST2.out.box
  clear hb2
  cases b2 with
  | false =>
    have HN : Hid (¬ Okc c) := Lib.hid (fun h => nomatch (hi2.2 h.ri.fs))
    clear hi2
    go_wp2_with fail
    go_ret
    exact .no rfl HN.out HB2.out
  | true =>
  have HP2 : Hid (Srt kF lF c.fs) := Lib.hid (hi2.1 rfl)
  clear hi2
  go_wp2_with fail
  clear c0 c1 c2 c3
  refine (ri_Nm HST2.out.ca.ns).mono ?_
  rintro r w3 ⟨b3, rfl, hi3, hb3⟩
  have HST3 := Lib.hid (HST2.out.below hb3)
  have HB3 := Lib.hid (HB2.out.trans (hb3.mono HB2.out.size))
  obtain ⟨c0, c1, c2, c3⟩ := cv_cells HST3.out.box
  clear hb3
  cases b3 with
  | false =>
    have HN : Hid (¬ Okc c) := Lib.hid (fun h => nomatch (hi3.2 h.ri.ns))
    clear hi3
    go_wp2_with fail
    go_ret
    exact .no rfl HN.out HB3.out
  | true =>
  have HP3 : Hid (Srt kN lN c.ns) := Lib.hid (hi3.1 rfl)
  clear hi3
  go_wp2_with fail
  clear c0 c1 c2 c3
  refine (ri_Bl HST3.out.ca.bs).mono ?_
  rintro r w4 ⟨b4, rfl, hi4, hb4⟩
  have HST4 := Lib.hid (HST3.out.below hb4)
  have HB4 := Lib.hid (HB3.out.trans (hb4.mono HB3.out.size))
  obtain ⟨c0, c1, c2, c3⟩ := cv_cells HST4.out.box
  clear hb4
  cases b4 with
  | false =>
    have HN : Hid (¬ Okc c) := Lib.hid (fun h => nomatch (hi4.2 h.ri.bs))
    clear hi4
    go_wp2_with fail
    go_ret
    exact .no rfl HN.out HB4.out
  | true =>
  have HP4 : Hid (Srt kB lB c.bs) := Lib.hid (hi4.1 rfl)
  clear hi4
  go_wp2_with fail
  clear c0 c1 c2 c3
  refine (un_Hd HST4.out.ca.hs (Nat.le_trans HF.out.hs (by decide)) HOH.out).mono ?_
  rintro r w5 ⟨b5, rfl, hi5, hb5⟩
  have HST5 := Lib.hid (HST4.out.below hb5)
  have HB5 := Lib.hid (HB4.out.trans (hb5.mono HB4.out.size))
  obtain ⟨c0, c1, c2, c3⟩ := cv_cells HST5.out.box
  clear hb5
  cases b5 with
  | false =>
    have HN : Hid (¬ Okc c) := Lib.hid (fun h => nomatch (hi5.2 h.hu))
    clear hi5
    go_wp2_with fail
    go_ret
    exact .no rfl HN.out HB5.out
  | true =>
  have HP5 : Hid ((c.hs.map (·.up)).Nodup) := Lib.hid (hi5.1 rfl)
  clear hi5
  go_wp2_with fail
  clear c0 c1 c2 c3
  refine (un_Bl HST5.out.ca.bs (Nat.le_trans HF.out.bs (by decide)) HOB.out).mono ?_
  rintro r w6 ⟨b6, rfl, hi6, hb6⟩
  have HST6 := Lib.hid (HST5.out.below hb6)
  have HB6 := Lib.hid (HB5.out.trans (hb6.mono HB5.out.size))
  obtain ⟨c0, c1, c2, c3⟩ := cv_cells HST6.out.box
  clear hb6
  cases b6 with
  | false =>
    have HN : Hid (¬ Okc c) := Lib.hid (fun h => nomatch (hi6.2 h.sl))
    clear hi6
    go_wp2_with fail
    go_ret
    exact .no rfl HN.out HB6.out
  | true =>
  have HP6 : Hid ((c.bs.map (·.sl)).Nodup) := Lib.hid (hi6.1 rfl)
  clear hi6
  go_wp2_with fail
  have HRI : Hid (Rises c) := Lib.hid ⟨HP1.out, HP2.out, HP3.out, HP4.out⟩
  clear c0 c1 c2 c3
  refine (cn_any (check5_pb HST6.out HP2.out) (Nat.le_refl _) HST6.out.ca.ns).mono ?_
  rintro r w7 ⟨rfl, hb7⟩
  have HST7 := Lib.hid (HST6.out.below hb7)
  have HB7 := Lib.hid (HB6.out.trans (hb7.mono HB6.out.size))
  obtain ⟨c0, c1, c2, c3⟩ := cv_cells HST7.out.box
  clear hb7
  have HV7 : Hid (∃ b, b = c.ns.any (fun y => noF c y.dir)) := Lib.hid ⟨_, rfl⟩
  obtain ⟨b7, hv7⟩ := HV7.out
  rw [← hv7]
  have HE7 := Lib.hid hv7
  clear hv7 HV7
  cases b7 with
  | true =>
    have HN : Hid (¬ Okc c) := Lib.hid (fun h => by have := HE7.out.trans h.nd; cases this)
    go_wp2_with fail
    go_ret
    exact .no rfl HN.out HB7.out
  | false =>
  go_wp2_with (refine rw_load (α := Cv) rfl (.tmp 1) rfl w.heap.size 0 rfl cv (range_row HST7.out.box) ?_)
  clear c0 c1 c2 c3
  refine (cb_any (check6_pb HST7.out HP2.out) (Nat.le_refl _) HST7.out.ca.bs).mono ?_
  rintro r w8 ⟨rfl, hb8⟩
  have HST8 := Lib.hid (HST7.out.below hb8)
  have HB8 := Lib.hid (HB7.out.trans (hb8.mono HB7.out.size))
  obtain ⟨c0, c1, c2, c3⟩ := cv_cells HST8.out.box
  clear hb8
  have HV8 : Hid (∃ b, b = c.bs.any (fun y => noF c y.up)) := Lib.hid ⟨_, rfl⟩
  obtain ⟨b8, hv8⟩ := HV8.out
  rw [← hv8]
  have HE8 := Lib.hid hv8
  clear hv8 HV8
  cases b8 with
  | true =>
    have HN : Hid (¬ Okc c) := Lib.hid (fun h => by have := HE8.out.trans h.bd; cases this)
    go_wp2_with fail
    go_ret
    exact .no rfl HN.out HB8.out
  | false =>
  go_wp2_with (refine rw_load (α := Cv) rfl (.tmp 1) rfl w.heap.size 0 rfl cv (range_row HST8.out.box) ?_)
  clear c0 c1 c2 c3
  refine (ichanges_any HST8.out.ca HF.out).mono ?_
  rintro r w9 ⟨v9, rfl, hr9, hb9⟩
  have HST9 := Lib.hid (HST8.out.below hb9)
  have HB9 := Lib.hid (HB8.out.trans (hb9.mono HB8.out.size))
  obtain ⟨c0, c1, c2, c3⟩ := cv_cells HST9.out.box
  clear hb9
  have HR9 := Lib.hid hr9
  obtain ⟨Ac, kc, hvc, hlc, hcc⟩ := hr9.any
  subst hvc
  clear hr9
  go_wp2_with fail
  refine (cc_any (check2_pb w9) (Nat.le_refl _) HR9.out).mono ?_
  rintro r wA ⟨rfl, hbA⟩
  have HBA := Lib.hid (HB9.out.trans (hbA.mono HB9.out.size))
  clear hbA c0 c1 c2 c3
  have HVA : Hid (∃ b, b = (chgC c).any (fun y => !chkP y)) := Lib.hid ⟨_, rfl⟩
  obtain ⟨bA, hvA⟩ := HVA.out
  rw [← hvA]
  have HEA := Lib.hid hvA
  clear hvA HVA
  cases bA with
  | true =>
    have HN : Hid (¬ Okc c) := Lib.hid (fun h => by have := HEA.out.trans h.ch; cases this)
    go_wp2_with fail
    go_ret
    exact .no rfl HN.out HBA.out
  | false =>
    have HY : Hid (Okc c) := Lib.hid ⟨HRI.out, HP5.out, HP6.out, HE7.out.symm, HE8.out.symm, HEA.out.symm⟩
    go_wp2_with fail
    go_ret
    exact ⟨true, rfl, ⟨fun _ => HY.out, fun _ => rfl⟩, HBA.out⟩
set_option maxHeartbeats 32000000 in
theorem changes_any {c : Ca} {cv : Cv} {w : World} (h : CaAt w cv c) (hf : Few c 100) :
    Calls Tryz.prog 38 #[.agg (arr cv)] w fun r w' => ∃ v', r = .returned v' ∧ Go.Proofs.YtokhnbdhcehonaaGreat.Rs w' 0 v' (chgC c) ∧ Below w.heap.size w w' := by
  obtain ⟨Wb, hW⟩ : ∃ Wb, Wb = w.alloc (.cells (arr cv) 30) := ⟨_, rfl⟩
  have hb0 : Below w.heap.size w Wb := by rw [hW]; exact bel_box
  have HX : Hid (Wb.heap[w.heap.size]? = some (.cells (arr cv) 30)) := Lib.hid (by rw [hW]; exact heap_alloc_new _ _)
  have HCA := Lib.hid (h.below hb0)
  have HB := Lib.hid hb0
  have HW := Lib.hid hW
  have HFW := Lib.hid hf
  have HRH := HCA.out.hs
  have HRF := HCA.out.fs
  have HRN := HCA.out.ns
  have HRB := HCA.out.bs
  obtain ⟨A1, p1, hv1, q1, _⟩ := HRH.any
  obtain ⟨A2, p2, hv2, q2, _⟩ := HRF.any
  obtain ⟨A3, p3, hv3, q3, _⟩ := HRN.any
  obtain ⟨A4, p4, hv4, q4, _⟩ := HRB.any
  rw [hv1] at HRH
  rw [hv2] at HRF
  rw [hv3] at HRN
  rw [hv4] at HRB
  have HRH := Lib.hid HRH
  have HRF := Lib.hid HRF
  have HRN := Lib.hid HRN
  have HRB := Lib.hid HRB
  have HCC : Hid (∀ wS, Below Wb.heap.size Wb wS → wS.cell? ⟨w.heap.size, 0, none⟩ = some (.slice A1 c.hs.length p1) ∧ wS.cell? ⟨w.heap.size, 1, none⟩ = some (.slice A2 c.fs.length p2) ∧ wS.cell? ⟨w.heap.size, 2, none⟩ = some (.slice A3 c.ns.length p3) ∧ wS.cell? ⟨w.heap.size, 3, none⟩ = some (.slice A4 c.bs.length p4)) := Lib.hid (fun wS hS => by
    have := cv_cells ((hS.block _ (heap_lt HX.out)).trans HX.out)
    rwa [hv1, hv2, hv3, hv4] at this)
  have L1 := hf.hs
  have L2 := hf.fs
  have L3 := hf.ns
  have L4 := hf.bs
  clear h hb0 hW hf hv1 hv2 hv3 hv4
  have HCG : Hid (chgC c = c.hs.map hdC ++ c.fs.map flC ++ c.ns.map nmC ++ c.bs.map blC) := Lib.hid rfl
  generalize c.hs = lh at *
  generalize c.fs = lf at *
  generalize c.ns = ln at *
  generalize c.bs = lb at *
  have hm63 : maxLen = 9223372036854775807 := rfl
  go_enter Tryz.func38, Tryz.ntmps38
  go_wp2_with fail
  rw [← HW.out]
  go_loopw [3, 4] (fun vo i wq => ∃ k : Nat, k ≤ lh.length ∧ i = .int .i64 k ∧ Ou Wb wq vo ((lh.take k).map hdC)) (fun _ i _ => lh.length - (intOf i).toNat)
  case atStart => exact ⟨0, by omega, rfl, .start Wb⟩
  case round =>
    obtain ⟨k, hk, rfl, hou⟩ := hrel
    have HO := Lib.hid hou
    clear hou
    obtain ⟨c0, c1, c2, c3⟩ := HCC.out wr HO.out.bl
    by_cases hlt : k < lh.length
    · have hltI : (k : Int) < (lh.length : Int) := by omega
      obtain ⟨b, off, cap', he, _, _⟩ := HRH.out.shape (by omega)
      cases he
      have HE : Hid (∀ wS, Below Wb.heap.size Wb wS → wS.rangeAt b (off + k * 3) (cells lh[k])) := Lib.hid (fun wS hS => rangeAt_below (HRH.out.range hlt) (HRH.out.lt2 (by omega) b rfl) hS)
      have HR : Hid (∀ wS, Below Wb.heap.size Wb wS → wS.cell? ⟨b, off + k * 3, none⟩ = some (.int .i64 lh[k].e) ∧ wS.cell? ⟨b, off + k * 3 + 1, none⟩ = some (.int .i64 lh[k].s) ∧ wS.cell? ⟨b, off + k * 3 + 2, none⟩ = some (.string lh[k].up)) := Lib.hid (fun wS hS => ⟨HE.out wS hS 0 _ rfl, HE.out wS hS 1 _ rfl, HE.out wS hS 2 _ rfl⟩)
      have HN := Lib.hid (map_next hdC hlt)
      go_wp2_with fail
      clear c0 c1 c2 c3
      refine W.wp_region_flow2_lit [(0, false), (1, false), (2, false), (3, false), (4, false), (5, false), (6, false), (7, false), (8, false), (9, false), (10, false), (11, false), (12, false), (13, false), (14, false), (15, false), (16, false), (17, false), (18, false), (19, false), (20, true), (21, true), (22, false)] (fun wS => Below Wb.heap.size Wb wS) (by kernel_rfl) (by kernel_rfl) (by kernel_rfl) HO.out.bl.drew ?_
      repeat (first | (refine' flow2_pass (o := _) rfl _ _; (focus rfl); simp only [Act.put, List.setIfInBounds_toArray, List.set_cons_zero, List.set_cons_succ]) | (refine' flow2_take (v := _) (o := _) rfl _ _ _; rotate_left; (focus rfl); (focus (intro wS hS; have hE := Ext.refl wS; (obtain ⟨c0, c1, c2, c3⟩ := HCC.out wS hS; obtain ⟨r0, r1, r2⟩ := HR.out wS hS); go_simp; try (with_reducible (first | exact ⟨rfl, hS, hE⟩ | rfl)); done)); simp only [Act.put, List.setIfInBounds_toArray, List.set_cons_zero, List.set_cons_succ]))
      refine flow2_turn (o := _) rfl rfl ?_
      intro wT hE hS K hK
      refine turn_lit1 (α := Ch) (by decide) (.tmp 34) rfl (hdC lh[k]) rfl ?_
      have HO2 := Lib.hid ((HO.out.below ((Below.refl wr.heap.size wr).drew.trans hE)).below (bel_box (o := .cells (arr (hdC lh[k])) (RowT.T Ch))))
      refine hK _ _ HO2.out.bl ?_
      have HS2 := Lib.hid (rs_one wT (hdC lh[k]))
      obtain ⟨w2, hw2⟩ : ∃ w2, w2 = wT.alloc (.cells (arr (hdC lh[k])) (RowT.T Ch)) := ⟨_, rfl⟩
      obtain ⟨gs, hgs⟩ : ∃ gs, gs = wT.heap.size := ⟨_, rfl⟩
      rw [← hw2] at HO2 HS2 ⊢
      rw [← hgs] at HS2 ⊢
      clear hE hS hK K hw2 hgs
      simp only [Act.put, List.setIfInBounds_toArray, List.set_cons_zero, List.set_cons_succ]
      refine flow2_turn (o := _) rfl rfl ?_
      intro wU hE hS K hK
      refine turn_append (α := Ch) (m := [hdC lh[k]]) (.tmp 15) (.tmp 35) rfl rfl (HO2.out.rs.below hE) (some ⟨gs, 0, none⟩) 1 rfl (fun h => by cases h) (Sl.news (HS2.out.below hE)).2 (by simp; omega) (HO2.out.below hE).bl.size ?_
      intro v3 w3 h3 hg3
      have hO3 : Ou Wb w3 v3 ((lh.take k).map hdC ++ [hdC lh[k]]) := ⟨h3, (HO2.out.below hE).bl.grown hg3 (HO2.out.below hE).bl.size (fun j hj => Sl.ge HO2.out.rs j hj)⟩
      refine hK _ _ hO3.bl ?_
      have HO3 := Lib.hid hO3
      clear hE hS hK K hO3 h3 hg3
      simp only [Act.put, List.setIfInBounds_toArray, List.set_cons_zero, List.set_cons_succ]
      repeat (first | (refine' flow2_pass (o := _) rfl _ _; (focus rfl); simp only [Act.put, List.setIfInBounds_toArray, List.set_cons_zero, List.set_cons_succ]) | (refine' flow2_take (v := _) (o := _) rfl _ _ _; rotate_left; (focus rfl); (focus (intro wS hS; have hE := Ext.refl wS; (skip); go_simp; try (with_reducible (first | exact ⟨rfl, hS, hE⟩ | rfl)); done)); simp only [Act.put, List.setIfInBounds_toArray, List.set_cons_zero, List.set_cons_succ]))
      refine flow2_nil ?_
      intro w4 hE hS
      have HO4 := Lib.hid (HO3.out.below hE)
      clear hE hS
      go_wp2_with fail
      go_roundw
      case rel => exact ⟨k + 1, by omega, by go_num, by rw [HN.out]; exact HO4.out⟩
      case measure => simp [intOf]; omega
    · have hltI : ¬ (k : Int) < (lh.length : Int) := by omega
      obtain rfl : k = lh.length := by omega
      have ho := HO.out
      rw [List.take_length] at ho
      have HO1 := Lib.hid ho
      clear ho HO
      go_wp2_with fail
      obtain ⟨w10, hw10⟩ : ∃ z, z = wr := ⟨_, rfl⟩
      subst hw10
      clear c0 c1 c2 c3
      go_loopw [3, 5] (fun vo i wq => ∃ k : Nat, k ≤ lf.length ∧ i = .int .i64 k ∧ Ou Wb wq vo ((lh.map hdC) ++ (lf.take k).map flC)) (fun _ i _ => lf.length - (intOf i).toNat)
      case atStart => exact ⟨0, by omega, rfl, (by simpa using HO1.out)⟩
      case round =>
        obtain ⟨k, hk, rfl, hou⟩ := hrel
        have HO := Lib.hid hou
        clear hou
        obtain ⟨c0, c1, c2, c3⟩ := HCC.out wr HO.out.bl
        by_cases hlt : k < lf.length
        · have hltI : (k : Int) < (lf.length : Int) := by omega
          obtain ⟨b, off, cap', he, _, _⟩ := HRF.out.shape (by omega)
          cases he
          have HE : Hid (∀ wS, Below Wb.heap.size Wb wS → wS.rangeAt b (off + k * 11) (cells lf[k])) := Lib.hid (fun wS hS => rangeAt_below (HRF.out.range hlt) (HRF.out.lt2 (by omega) b rfl) hS)
          have HR : Hid (∀ wS, Below Wb.heap.size Wb wS → wS.cell? ⟨b, off + k * 11, none⟩ = some (.string lf[k].up)) := Lib.hid (fun wS hS => HE.out wS hS 0 _ rfl)
          have HN := Lib.hid (map_next flC hlt)
          go_wp2_with fail
          clear c0 c1 c2 c3
          refine W.wp_region_flow2_lit [(0, false), (1, false), (2, false), (3, false), (4, false), (5, false), (6, false), (7, false), (8, false), (9, false), (10, false), (11, false), (12, false), (13, false), (14, true), (15, true), (16, false)] (fun wS => Below Wb.heap.size Wb wS) (by kernel_rfl) (by kernel_rfl) (by kernel_rfl) HO.out.bl.drew ?_
          repeat (first | (refine' flow2_pass (o := _) rfl _ _; (focus rfl); simp only [Act.put, List.setIfInBounds_toArray, List.set_cons_zero, List.set_cons_succ]) | (refine' flow2_take (v := _) (o := _) rfl _ _ _; rotate_left; (focus rfl); (focus (intro wS hS; have hE := Ext.refl wS; (obtain ⟨c0, c1, c2, c3⟩ := HCC.out wS hS; have r0 := HR.out wS hS); go_simp; try (with_reducible (first | exact ⟨rfl, hS, hE⟩ | rfl)); done)); simp only [Act.put, List.setIfInBounds_toArray, List.set_cons_zero, List.set_cons_succ]))
          (refine flow2_take (v := .agg (arr lf[k].a)) (o := _) rfl rfl (fun wS hS => gives_row rfl rfl (fl_range2 (HE.out wS hS)) ⟨hS, Ext.refl wS⟩) ?_; simp only [Act.put, List.setIfInBounds_toArray, List.set_cons_zero, List.set_cons_succ])
          have hca : (cells lf[k].a).length = 10 := Row.len lf[k].a
          (refine flow2_take (v := .agg (arr (flC lf[k]))) (o := _) rfl rfl (fun wS hS => by go_simp; exact ⟨build_ch _ _, Ext.refl wS⟩) ?_; simp only [Act.put, List.setIfInBounds_toArray, List.set_cons_zero, List.set_cons_succ])
          clear hca
          refine flow2_turn (o := _) rfl rfl ?_
          intro wT hE hS K hK
          refine turn_lit1 (α := Ch) (by decide) (.tmp 57) rfl (flC lf[k]) rfl ?_
          have HO2 := Lib.hid ((HO.out.below ((Below.refl wr.heap.size wr).drew.trans hE)).below (bel_box (o := .cells (arr (flC lf[k])) (RowT.T Ch))))
          refine hK _ _ HO2.out.bl ?_
          have HS2 := Lib.hid (rs_one wT (flC lf[k]))
          obtain ⟨w2, hw2⟩ : ∃ w2, w2 = wT.alloc (.cells (arr (flC lf[k])) (RowT.T Ch)) := ⟨_, rfl⟩
          obtain ⟨gs, hgs⟩ : ∃ gs, gs = wT.heap.size := ⟨_, rfl⟩
          rw [← hw2] at HO2 HS2 ⊢
          rw [← hgs] at HS2 ⊢
          clear hE hS hK K hw2 hgs
          simp only [Act.put, List.setIfInBounds_toArray, List.set_cons_zero, List.set_cons_succ]
          refine flow2_turn (o := _) rfl rfl ?_
          intro wU hE hS K hK
          refine turn_append (α := Ch) (m := [flC lf[k]]) (.tmp 44) (.tmp 58) rfl rfl (HO2.out.rs.below hE) (some ⟨gs, 0, none⟩) 1 rfl (fun h => by cases h) (Sl.news (HS2.out.below hE)).2 (by simp; omega) (HO2.out.below hE).bl.size ?_
          intro v3 w3 h3 hg3
          have hO3 : Ou Wb w3 v3 ((lh.map hdC) ++ (lf.take k).map flC ++ [flC lf[k]]) := ⟨h3, (HO2.out.below hE).bl.grown hg3 (HO2.out.below hE).bl.size (fun j hj => Sl.ge HO2.out.rs j hj)⟩
          refine hK _ _ hO3.bl ?_
          have HO3 := Lib.hid hO3
          clear hE hS hK K hO3 h3 hg3
          simp only [Act.put, List.setIfInBounds_toArray, List.set_cons_zero, List.set_cons_succ]
          repeat (first | (refine' flow2_pass (o := _) rfl _ _; (focus rfl); simp only [Act.put, List.setIfInBounds_toArray, List.set_cons_zero, List.set_cons_succ]) | (refine' flow2_take (v := _) (o := _) rfl _ _ _; rotate_left; (focus rfl); (focus (intro wS hS; have hE := Ext.refl wS; (skip); go_simp; try (with_reducible (first | exact ⟨rfl, hS, hE⟩ | rfl)); done)); simp only [Act.put, List.setIfInBounds_toArray, List.set_cons_zero, List.set_cons_succ]))
          refine flow2_nil ?_
          intro w4 hE hS
          have HO4 := Lib.hid (HO3.out.below hE)
          clear hE hS
          go_wp2_with fail
          go_roundw
          case rel => exact ⟨k + 1, by omega, by go_num, by rw [HN.out, ← List.append_assoc]; exact HO4.out⟩
          case measure => simp [intOf]; omega
        · have hltI : ¬ (k : Int) < (lf.length : Int) := by omega
          obtain rfl : k = lf.length := by omega
          have ho := HO.out
          rw [List.take_length] at ho
          have HO2 := Lib.hid ho
          clear ho HO
          go_wp2_with fail
          obtain ⟨w20, hw20⟩ : ∃ z, z = wr := ⟨_, rfl⟩
          subst hw20
          clear c0 c1 c2 c3
          go_loopw [3, 6] (fun vo i wq => ∃ k : Nat, k ≤ ln.length ∧ i = .int .i64 k ∧ Ou Wb wq vo ((lh.map hdC ++ lf.map flC) ++ (ln.take k).map nmC)) (fun _ i _ => ln.length - (intOf i).toNat)
          case atStart => exact ⟨0, by omega, rfl, (by simpa using HO2.out)⟩
          case round =>
            obtain ⟨k, hk, rfl, hou⟩ := hrel
            have HO := Lib.hid hou
            clear hou
            obtain ⟨c0, c1, c2, c3⟩ := HCC.out wr HO.out.bl
            by_cases hlt : k < ln.length
            · have hltI : (k : Int) < (ln.length : Int) := by omega
              obtain ⟨b, off, cap', he, _, _⟩ := HRN.out.shape (by omega)
              cases he
              have HE : Hid (∀ wS, Below Wb.heap.size Wb wS → wS.rangeAt b (off + k * 3) (cells ln[k])) := Lib.hid (fun wS hS => rangeAt_below (HRN.out.range hlt) (HRN.out.lt2 (by omega) b rfl) hS)
              have HR : Hid (∀ wS, Below Wb.heap.size Wb wS → wS.cell? ⟨b, off + k * 3, none⟩ = some (.string ln[k].dir) ∧ wS.cell? ⟨b, off + k * 3 + 1, none⟩ = some (.string ln[k].name) ∧ wS.cell? ⟨b, off + k * 3 + 2, none⟩ = some (.string ln[k].up)) := Lib.hid (fun wS hS => ⟨HE.out wS hS 0 _ rfl, HE.out wS hS 1 _ rfl, HE.out wS hS 2 _ rfl⟩)
              have HN := Lib.hid (map_next nmC hlt)
              go_wp2_with fail
              clear c0 c1 c2 c3
              refine W.wp_region_flow2_lit [(0, false), (1, false), (2, false), (3, false), (4, false), (5, false), (6, false), (7, false), (8, false), (9, false), (10, false), (11, false), (12, false), (13, false), (14, false), (15, false), (16, false), (17, false), (18, false), (19, false), (20, true), (21, true), (22, false)] (fun wS => Below Wb.heap.size Wb wS) (by kernel_rfl) (by kernel_rfl) (by kernel_rfl) HO.out.bl.drew ?_
              repeat (first | (refine' flow2_pass (o := _) rfl _ _; (focus rfl); simp only [Act.put, List.setIfInBounds_toArray, List.set_cons_zero, List.set_cons_succ]) | (refine' flow2_take (v := _) (o := _) rfl _ _ _; rotate_left; (focus rfl); (focus (intro wS hS; have hE := Ext.refl wS; (obtain ⟨c0, c1, c2, c3⟩ := HCC.out wS hS; obtain ⟨r0, r1, r2⟩ := HR.out wS hS); go_simp; try (with_reducible (first | exact ⟨rfl, hS, hE⟩ | rfl)); done)); simp only [Act.put, List.setIfInBounds_toArray, List.set_cons_zero, List.set_cons_succ]))
              refine flow2_turn (o := _) rfl rfl ?_
              intro wT hE hS K hK
              refine turn_lit1 (α := Ch) (by decide) (.tmp 86) rfl (nmC ln[k]) rfl ?_
              have HO2 := Lib.hid ((HO.out.below ((Below.refl wr.heap.size wr).drew.trans hE)).below (bel_box (o := .cells (arr (nmC ln[k])) (RowT.T Ch))))
              refine hK _ _ HO2.out.bl ?_
              have HS2 := Lib.hid (rs_one wT (nmC ln[k]))
              obtain ⟨w2, hw2⟩ : ∃ w2, w2 = wT.alloc (.cells (arr (nmC ln[k])) (RowT.T Ch)) := ⟨_, rfl⟩
              obtain ⟨gs, hgs⟩ : ∃ gs, gs = wT.heap.size := ⟨_, rfl⟩
              rw [← hw2] at HO2 HS2 ⊢
              rw [← hgs] at HS2 ⊢
              clear hE hS hK K hw2 hgs
              simp only [Act.put, List.setIfInBounds_toArray, List.set_cons_zero, List.set_cons_succ]
              refine flow2_turn (o := _) rfl rfl ?_
              intro wU hE hS K hK
              refine turn_append (α := Ch) (m := [nmC ln[k]]) (.tmp 67) (.tmp 87) rfl rfl (HO2.out.rs.below hE) (some ⟨gs, 0, none⟩) 1 rfl (fun h => by cases h) (Sl.news (HS2.out.below hE)).2 (by simp; omega) (HO2.out.below hE).bl.size ?_
              intro v3 w3 h3 hg3
              have hO3 : Ou Wb w3 v3 ((lh.map hdC ++ lf.map flC) ++ (ln.take k).map nmC ++ [nmC ln[k]]) := ⟨h3, (HO2.out.below hE).bl.grown hg3 (HO2.out.below hE).bl.size (fun j hj => Sl.ge HO2.out.rs j hj)⟩
              refine hK _ _ hO3.bl ?_
              have HO3 := Lib.hid hO3
              clear hE hS hK K hO3 h3 hg3
              simp only [Act.put, List.setIfInBounds_toArray, List.set_cons_zero, List.set_cons_succ]
              repeat (first | (refine' flow2_pass (o := _) rfl _ _; (focus rfl); simp only [Act.put, List.setIfInBounds_toArray, List.set_cons_zero, List.set_cons_succ]) | (refine' flow2_take (v := _) (o := _) rfl _ _ _; rotate_left; (focus rfl); (focus (intro wS hS; have hE := Ext.refl wS; (skip); go_simp; try (with_reducible (first | exact ⟨rfl, hS, hE⟩ | rfl)); done)); simp only [Act.put, List.setIfInBounds_toArray, List.set_cons_zero, List.set_cons_succ]))
              refine flow2_nil ?_
              intro w4 hE hS
              have HO4 := Lib.hid (HO3.out.below hE)
              clear hE hS
              go_wp2_with fail
              go_roundw
              case rel => exact ⟨k + 1, by omega, by go_num, by rw [HN.out, ← List.append_assoc]; exact HO4.out⟩
              case measure => simp [intOf]; omega
            · have hltI : ¬ (k : Int) < (ln.length : Int) := by omega
              obtain rfl : k = ln.length := by omega
              have ho := HO.out
              rw [List.take_length] at ho
              have HO3 := Lib.hid ho
              clear ho HO
              go_wp2_with fail
              obtain ⟨w30, hw30⟩ : ∃ z, z = wr := ⟨_, rfl⟩
              subst hw30
              clear c0 c1 c2 c3
              go_loopw [3, 7] (fun vo i wq => ∃ k : Nat, k ≤ lb.length ∧ i = .int .i64 k ∧ Ou Wb wq vo ((lh.map hdC ++ lf.map flC ++ ln.map nmC) ++ (lb.take k).map blC)) (fun _ i _ => lb.length - (intOf i).toNat)
              case atStart => exact ⟨0, by omega, rfl, (by simpa using HO3.out)⟩
              case round =>
                obtain ⟨k, hk, rfl, hou⟩ := hrel
                have HO := Lib.hid hou
                clear hou
                obtain ⟨c0, c1, c2, c3⟩ := HCC.out wr HO.out.bl
                by_cases hlt : k < lb.length
                · have hltI : (k : Int) < (lb.length : Int) := by omega
                  obtain ⟨b, off, cap', he, _, _⟩ := HRB.out.shape (by omega)
                  cases he
                  have HE : Hid (∀ wS, Below Wb.heap.size Wb wS → wS.rangeAt b (off + k * 3) (cells lb[k])) := Lib.hid (fun wS hS => rangeAt_below (HRB.out.range hlt) (HRB.out.lt2 (by omega) b rfl) hS)
                  have HR : Hid (∀ wS, Below Wb.heap.size Wb wS → wS.cell? ⟨b, off + k * 3, none⟩ = some (.string lb[k].up) ∧ wS.cell? ⟨b, off + k * 3 + 1, none⟩ = some (.int .i64 lb[k].no) ∧ wS.cell? ⟨b, off + k * 3 + 2, none⟩ = some (.int .i64 lb[k].sl)) := Lib.hid (fun wS hS => ⟨HE.out wS hS 0 _ rfl, HE.out wS hS 1 _ rfl, HE.out wS hS 2 _ rfl⟩)
                  have HN := Lib.hid (map_next blC hlt)
                  go_wp2_with fail
                  clear c0 c1 c2 c3
                  refine W.wp_region_flow2_lit [(0, false), (1, false), (2, false), (3, false), (4, false), (5, false), (6, false), (7, false), (8, false), (9, false), (10, false), (11, false), (12, false), (13, false), (14, false), (15, false), (16, false), (17, false), (18, false), (19, false), (20, true), (21, true), (22, false)] (fun wS => Below Wb.heap.size Wb wS) (by kernel_rfl) (by kernel_rfl) (by kernel_rfl) HO.out.bl.drew ?_
                  repeat (first | (refine' flow2_pass (o := _) rfl _ _; (focus rfl); simp only [Act.put, List.setIfInBounds_toArray, List.set_cons_zero, List.set_cons_succ]) | (refine' flow2_take (v := _) (o := _) rfl _ _ _; rotate_left; (focus rfl); (focus (intro wS hS; have hE := Ext.refl wS; (obtain ⟨c0, c1, c2, c3⟩ := HCC.out wS hS; obtain ⟨r0, r1, r2⟩ := HR.out wS hS); go_simp; try (with_reducible (first | exact ⟨rfl, hS, hE⟩ | rfl)); done)); simp only [Act.put, List.setIfInBounds_toArray, List.set_cons_zero, List.set_cons_succ]))
                  refine flow2_turn (o := _) rfl rfl ?_
                  intro wT hE hS K hK
                  refine turn_lit1 (α := Ch) (by decide) (.tmp 115) rfl (blC lb[k]) rfl ?_
                  have HO2 := Lib.hid ((HO.out.below ((Below.refl wr.heap.size wr).drew.trans hE)).below (bel_box (o := .cells (arr (blC lb[k])) (RowT.T Ch))))
                  refine hK _ _ HO2.out.bl ?_
                  have HS2 := Lib.hid (rs_one wT (blC lb[k]))
                  obtain ⟨w2, hw2⟩ : ∃ w2, w2 = wT.alloc (.cells (arr (blC lb[k])) (RowT.T Ch)) := ⟨_, rfl⟩
                  obtain ⟨gs, hgs⟩ : ∃ gs, gs = wT.heap.size := ⟨_, rfl⟩
                  rw [← hw2] at HO2 HS2 ⊢
                  rw [← hgs] at HS2 ⊢
                  clear hE hS hK K hw2 hgs
                  simp only [Act.put, List.setIfInBounds_toArray, List.set_cons_zero, List.set_cons_succ]
                  refine flow2_turn (o := _) rfl rfl ?_
                  intro wU hE hS K hK
                  refine turn_append (α := Ch) (m := [blC lb[k]]) (.tmp 96) (.tmp 116) rfl rfl (HO2.out.rs.below hE) (some ⟨gs, 0, none⟩) 1 rfl (fun h => by cases h) (Sl.news (HS2.out.below hE)).2 (by simp; omega) (HO2.out.below hE).bl.size ?_
                  intro v3 w3 h3 hg3
                  have hO3 : Ou Wb w3 v3 ((lh.map hdC ++ lf.map flC ++ ln.map nmC) ++ (lb.take k).map blC ++ [blC lb[k]]) := ⟨h3, (HO2.out.below hE).bl.grown hg3 (HO2.out.below hE).bl.size (fun j hj => Sl.ge HO2.out.rs j hj)⟩
                  refine hK _ _ hO3.bl ?_
                  have HO3 := Lib.hid hO3
                  clear hE hS hK K hO3 h3 hg3
                  simp only [Act.put, List.setIfInBounds_toArray, List.set_cons_zero, List.set_cons_succ]
                  repeat (first | (refine' flow2_pass (o := _) rfl _ _; (focus rfl); simp only [Act.put, List.setIfInBounds_toArray, List.set_cons_zero, List.set_cons_succ]) | (refine' flow2_take (v := _) (o := _) rfl _ _ _; rotate_left; (focus rfl); (focus (intro wS hS; have hE := Ext.refl wS; (skip); go_simp; try (with_reducible (first | exact ⟨rfl, hS, hE⟩ | rfl)); done)); simp only [Act.put, List.setIfInBounds_toArray, List.set_cons_zero, List.set_cons_succ]))
                  refine flow2_nil ?_
                  intro w4 hE hS
                  have HO4 := Lib.hid (HO3.out.below hE)
                  clear hE hS
                  go_wp2_with fail
                  go_roundw
                  case rel => exact ⟨k + 1, by omega, by go_num, by rw [HN.out, ← List.append_assoc]; exact HO4.out⟩
                  case measure => simp [intOf]; omega
                · have hltI : ¬ (k : Int) < (lb.length : Int) := by omega
                  obtain rfl : k = lb.length := by omega
                  have ho := HO.out
                  rw [List.take_length] at ho
                  have HO4 := Lib.hid ho
                  clear ho HO
                  go_wp2_with fail
                  go_ret
                  refine ⟨_, rfl, ?_, HB.out.trans (HO4.out.bl.mono HB.out.size)⟩
                  rw [HCG.out]
                  exact HO4.out.rs.mono (Nat.zero_le _)
set_option maxHeartbeats 4000000 in
theorem pfile_any {l : List Fl} {cv : Cv} {w : World} (h : Rs w 0 cv.b.v l) (u : ByteArray) :
    Calls Tryz.prog 20 #[.agg (arr cv), .string u] w fun r w' => r = .returned (.int .i64 (plc (fun y => decide (kF y = u)) l)) ∧ Below w.heap.size w w' := by
  have hb0 : Below w.heap.size w (w.alloc (.cells (arr cv) 30)) := bel_box
  have c1 := (cv_cells (heap_alloc_new w (.cells (arr cv) 30))).2.1
  have hr := h.below hb0
  obtain ⟨A, cap, hv, hlc, hcap⟩ := hr.any
  rw [hv] at c1
  rw [hv] at hr
  have HR := Lib.hid hr
  have HB := Lib.hid hb0
  clear h hv hr hb0
  obtain ⟨r, hfr⟩ : ∃ r, r = plc (fun y => decide (kF y = u)) l := ⟨_, rfl⟩
  rw [← hfr]
  have HFR := Lib.hid hfr
  clear hfr
  have hm63 : maxLen = 9223372036854775807 := rfl
  go_enter Tryz.func20, Tryz.ntmps20
  go_wp2_with fail
  go_loop [5] (fun i => ∃ k : Nat, k ≤ l.length ∧ i = .int .i64 k ∧ (∀ y ∈ l.take k, decide (kF y = u) = false)) (fun i => l.length - (intOf i).toNat)
  case atStart => exact ⟨0, by omega, rfl, fun y hy => by simp at hy⟩
  case round =>
    obtain ⟨k, hk, rfl, hno⟩ := hrel
    have HN := Lib.hid hno
    clear hno
    by_cases hlt : k < l.length
    · have hltI : (k : Int) < (l.length : Int) := by omega
      obtain ⟨b, off, cap', he, _, _⟩ := HR.out.shape (by omega)
      cases he
      have r0 : (w.alloc (.cells (arr cv) 30)).cell? ⟨b, off + k * 11, none⟩ = some (.string l[k].up) := HR.out.range hlt 0 _ rfl
      by_cases hu0 : l[k].up = u
      · have e0 := (str_eq l[k].up u).trans (decide_eq_true hu0)
        obtain rfl := HFR.out.trans (plc_hit hlt HN.out (by simp [hu0]))
        clear hu0
        go_wp2_with fail
        go_ret
        exact ⟨rfl, HB.out⟩
      · have e0 := (str_eq l[k].up u).trans (decide_eq_false hu0)
        have HU : Hid (decide (kF l[k] = u) = false) := Lib.hid (by simp [hu0])
        clear hu0
        go_wp2_with fail
        go_round
        case rel => exact ⟨k + 1, by omega, by go_num, take_next hlt HN.out HU.out⟩
        case measure => simp [intOf]; omega
    · have hltI : ¬ (k : Int) < (l.length : Int) := by omega
      obtain rfl : k = l.length := by omega
      have HM := HN.out
      rw [List.take_length] at HM
      obtain rfl := HFR.out.trans (plc_miss HM)
      clear HM HN
      go_wp2_with fail
      go_ret
      exact ⟨rfl, HB.out⟩
set_option maxHeartbeats 4000000 in
theorem pissued_any {l : List Hd} {v : Value} {w : World} (h : Rs w 0 v l) (u : ByteArray) :
    Calls Tryz.prog 18 #[v, .string u] w fun r w' => r = .returned (.int .i64 (plc (fun y => decide (kU y = u)) l)) ∧ Below w.heap.size w w' := by
  obtain ⟨A, cap, hv, hlc, hcap⟩ := h.any
  subst hv
  have HR := Lib.hid h
  have HB := Lib.hid (Below.refl w.heap.size w)
  clear h
  obtain ⟨r, hfr⟩ : ∃ r, r = plc (fun y => decide (kU y = u)) l := ⟨_, rfl⟩
  rw [← hfr]
  have HFR := Lib.hid hfr
  clear hfr
  have hm63 : maxLen = 9223372036854775807 := rfl
  go_enter Tryz.func18, Tryz.ntmps18
  go_wp2_with fail
  go_loop [5] (fun i => ∃ k : Nat, k ≤ l.length ∧ i = .int .i64 k ∧ (∀ y ∈ l.take k, decide (kU y = u) = false)) (fun i => l.length - (intOf i).toNat)
  case atStart => exact ⟨0, by omega, rfl, fun y hy => by simp at hy⟩
  case round =>
    obtain ⟨k, hk, rfl, hno⟩ := hrel
    have HN := Lib.hid hno
    clear hno
    by_cases hlt : k < l.length
    · have hltI : (k : Int) < (l.length : Int) := by omega
      obtain ⟨b, off, cap', he, _, _⟩ := HR.out.shape (by omega)
      cases he
      have r0 : w.cell? ⟨b, off + k * 3 + 2, none⟩ = some (.string l[k].up) := HR.out.range hlt 2 _ rfl
      by_cases hu0 : l[k].up = u
      · have e0 := (str_eq l[k].up u).trans (decide_eq_true hu0)
        obtain rfl := HFR.out.trans (plc_hit hlt HN.out (by simp [hu0]))
        clear hu0
        go_wp2_with fail
        go_ret
        exact ⟨rfl, HB.out⟩
      · have e0 := (str_eq l[k].up u).trans (decide_eq_false hu0)
        have HU : Hid (decide (kU l[k] = u) = false) := Lib.hid (by simp [hu0])
        clear hu0
        go_wp2_with fail
        go_round
        case rel => exact ⟨k + 1, by omega, by go_num, take_next hlt HN.out HU.out⟩
        case measure => simp [intOf]; omega
    · have hltI : ¬ (k : Int) < (l.length : Int) := by omega
      obtain rfl : k = l.length := by omega
      have HM := HN.out
      rw [List.take_length] at HM
      obtain rfl := HFR.out.trans (plc_miss HM)
      clear HM HN
      go_wp2_with fail
      go_ret
      exact ⟨rfl, HB.out⟩
end Go.Proofs.YtokhnbdhcehonaaGreat.O
/- index: the document's Check of a cache. -/
namespace Go.Proofs.YtokhnbdhcehonaaGreat.O
open Go Go.RowKit Row
set_option maxRecDepth 100000
theorem plc_here {α κ : Type} [DecidableEq κ] {f : α → κ} {l : List α} {k : Nat} (hk : k < l.length) : (plc (fun y => decide (f y = f l[k])) l != (k : Int)) = inS ((l.take k).map f) (f l[k]) := by
  rw [Bool.eq_iff_iff, inS_iff]
  rcases plc_cases (fun y => decide (f y = f l[k])) l with ⟨i, hi, hp, he, hno⟩ | ⟨hp, hno⟩
  · rw [hp]
    simp only [bne_iff_ne, ne_eq]
    constructor
    · intro hne
      have hik : i < k := by
        rcases Nat.lt_trichotomy i k with h | h | h
        · exact h
        · exact absurd (by rw [h]) hne
        · have := hno l[k] (List.mem_take_iff_getElem.2 ⟨k, by omega, rfl⟩)
          simp at this
      exact List.mem_map.2 ⟨l[i], List.mem_take_iff_getElem.2 ⟨i, by omega, rfl⟩, by simpa using he⟩
    · intro hm e
      obtain ⟨y, hy, hye⟩ := List.mem_map.1 hm
      obtain rfl : i = k := by omega
      have := hno y hy
      simp [hye] at this
  · have := hno l[k] (List.getElem_mem hk)
    simp at this
theorem plc_noF (c : Ca) (u : ByteArray) : decide (plc (fun y => decide (kF y = u)) c.fs < 0) = noF c u := by
  unfold noF
  rcases plc_find kF c.fs u with ⟨i, hp, hs⟩ | ⟨hp, hs, _⟩
  · rw [hp, hs]; simp
  · rw [hp, hs]; rfl
theorem srt_one (l : List Fl) : Srt kF lF (l.take 1) := by
  cases l with
  | nil => exact .nil
  | cons a l => exact List.pairwise_singleton _ _
theorem any_next {α : Type} {p : α → Bool} {l : List α} {k : Nat} (hk : k < l.length) (h : (l.take k).any p = false) (hx : p l[k] = false) : (l.take (k + 1)).any p = false := by
  rw [List.take_succ_eq_append_getElem hk, List.any_append, h]
  simp [hx]
theorem any_hit {α : Type} {p : α → Bool} {l : List α} {k : Nat} (hk : k < l.length) (hx : p l[k] = true) : ¬ l.any p = false := fun h => by
  have := List.any_eq_false.1 h l[k] (List.getElem_mem hk)
  exact this hx
set_option maxHeartbeats 16000000 in
theorem rhandles_any {l : List Hd} {v : Value} {w : World} (h : Rs w 0 v l) : Calls Tryz.prog 74 #[v] w (IsV (Srt kH lH l ∧ (l.map (·.up)).Nodup) w) := by
  obtain ⟨A, cap, rfl, hlc, hcap⟩ := h.any
  have HR := Lib.hid h
  clear h
  have hm63 : maxLen = 9223372036854775807 := rfl
  go_enter Tryz.func74, Tryz.ntmps74
  go_wp2_with fail
  go_loopw [3] (fun i wq => ∃ k : Nat, k ≤ l.length ∧ i = .int .i64 k ∧ Srt kH lH (l.take k) ∧ ((l.take k).map (·.up)).Nodup ∧ Below w.heap.size w wq) (fun i _ => l.length - (intOf i).toNat)
  case atStart => exact ⟨0, by omega, rfl, .nil, .nil, Below.refl _ _⟩
  case round =>
    obtain ⟨k, hk, rfl, hs, hn, hbq⟩ := hrel
    have HQ := Lib.hid hbq
    have HS := Lib.hid hs
    have HD := Lib.hid hn
    clear hbq hs hn
    by_cases hlt : k < l.length
    · have hltI : (k : Int) < (l.length : Int) := by omega
      obtain ⟨b, off, cap', he, _, _⟩ := HR.out.shape (by omega)
      cases he
      have HE := Lib.hid (rangeAt_below (HR.out.range hlt) (HR.out.lt2 (by omega) b rfl) HQ.out)
      have HBL := Lib.hid (Nat.lt_of_lt_of_le (HR.out.lt2 (by omega) b rfl) HQ.out.size)
      have HU : Hid (∀ wS, Below wr.heap.size wr wS → wS.cell? ⟨b, off + k * 3 + 2, none⟩ = some (.string l[k].up)) := Lib.hid (fun wS hS => rangeAt_below HE.out HBL.out hS 2 _ rfl)
      have HPI := Lib.hid (fun wS (hS : Below wr.heap.size wr wS) => pissued_any ((HR.out.below HQ.out).below hS) l[k].up)
      have HX1 : Hid ((plc (fun y => decide (kU y = l[k].up)) l != (k : Int)) = false → ((l.take (k + 1)).map (·.up)).Nodup) := Lib.hid (fun hx => by
        rw [plc_here (f := kU) hlt] at hx
        rw [List.take_succ_eq_append_getElem hlt, List.map_append]
        exact nodup_one HD.out hx)
      have HX2 : Hid ((plc (fun y => decide (kU y = l[k].up)) l != (k : Int)) = true → ¬ (Srt kH lH l ∧ (l.map (·.up)).Nodup)) := Lib.hid (fun hx h => by
        rw [plc_here (f := kU) hlt] at hx
        exact in_twice hlt hx h.2)
      generalize plc (fun y => decide (kU y = l[k].up)) l = P at HPI HX1 HX2
      go_upto_region 4 with fail
      go_cut [35] from 10 to 35 (fun s wx => ∃ bb : Bool, s = .bool bb ∧ (bb = false → Srt kH lH (l.take (k + 1)) ∧ ((l.take (k + 1)).map (·.up)).Nodup) ∧ (bb = true → ¬ (Srt kH lH l ∧ (l.map (·.up)).Nodup)) ∧ Below wr.heap.size wr wx)
      case first =>
        have hjE : ∀ j, j = k - 1 → 0 < k → IntKind.i64.wrap ((k : Int) - 1) = (j : Int) := fun j hj h0 => by rw [IntWalk.i64_in _ (by omega)]; omega
        by_cases h0 : 0 < k
        · have h0I : (0 : Int) < (k : Int) := by omega
          have hp : k - 1 < l.length := by omega
          have HE1 := Lib.hid (rangeAt_below (HR.out.range hp) (HR.out.lt2 (by omega) b rfl) HQ.out)
          have HN := Lib.hid (fun hx => srt_next lH_lin hlt h0 hx HS.out)
          have HB0 := Lib.hid (fun hx => srt_break (k := kH) (lt := lH) hlt h0 hx)
          obtain ⟨j, hj⟩ : ∃ j : Nat, j = k - 1 := ⟨_, rfl⟩
          have hjI := hjE j hj h0
          have hjlI : (j : Int) < (l.length : Int) := by omega
          have hjl : j < l.length := by omega
          simp only [← hj] at HE1 HN HB0
          generalize (l[j]'hjl) = xj at HE1 HN HB0
          generalize (l[k]'hlt) = xk at *
          clear hj hjE
          cases hx : lH (kH xj) (kH xk) with
          | true =>
            have HN2 := Lib.hid (HN.out hx)
            have HCL := Lib.hid (fun w => hx ▸ lheld_any xj xk w)
            clear hx HN HB0
            refine wp_region_flow2_lit [(0, false), (1, false), (2, false), (3, false), (4, false), (5, false), (6, false), (7, false), (8, false), (9, false), (10, false), (11, false), (12, false), (13, false), (14, false), (15, false), (16, false), (17, false), (18, false), (19, false), (20, false), (21, false), (22, false), (23, false), (24, false), (25, false)] (fun wS => Below wr.heap.size wr wS) (by kernel_rfl) (by kernel_rfl) (by kernel_rfl) (Below.refl _ _).drew ?_
            repeat (first | (refine' flow2_pass (o := _) rfl _ _; (focus rfl); simp only [Act.put, List.setIfInBounds_toArray, List.set_cons_zero, List.set_cons_succ]) | (refine' flow2_take (v := _) (o := _) rfl _ _ _; rotate_left; (focus rfl); (focus (intro wS hS; have hE := Ext.refl wS; (skip); go_simp; try (with_reducible (first | exact ⟨rfl, hS, hE⟩ | rfl)); done)); simp only [Act.put, List.setIfInBounds_toArray, List.set_cons_zero, List.set_cons_succ]))
            (refine flow2_take (v := .agg (arr xj)) (o := _) rfl rfl (fun wS hS => gives_row rfl rfl (rangeAt_below HE1.out HBL.out hS) ⟨hS, Ext.refl wS⟩) ?_; simp only [Act.put, List.setIfInBounds_toArray, List.set_cons_zero, List.set_cons_succ])
            repeat (first | (refine' flow2_pass (o := _) rfl _ _; (focus rfl); simp only [Act.put, List.setIfInBounds_toArray, List.set_cons_zero, List.set_cons_succ]) | (refine' flow2_take (v := _) (o := _) rfl _ _ _; rotate_left; (focus rfl); (focus (intro wS hS; have hE := Ext.refl wS; (skip); go_simp; try (with_reducible (first | exact ⟨rfl, hS, hE⟩ | rfl)); done)); simp only [Act.put, List.setIfInBounds_toArray, List.set_cons_zero, List.set_cons_succ]))
            (refine flow2_take (v := .agg (arr xk)) (o := _) rfl rfl (fun wS hS => gives_row rfl rfl (rangeAt_below HE.out HBL.out hS) ⟨hS, Ext.refl wS⟩) ?_; simp only [Act.put, List.setIfInBounds_toArray, List.set_cons_zero, List.set_cons_succ])
            (refine' flow2_take (v := _) (o := _) rfl _ _ _; rotate_left; (focus rfl); (focus (intro wS hS; go_simp; refine (HCL.out _).mono ?_; rintro e w' ⟨rfl, hb⟩; refine ⟨?_, hS.trans (hb.mono hS.size), hb⟩; rfl)); simp only [Act.put, List.setIfInBounds_toArray, List.set_cons_zero, List.set_cons_succ])
            repeat (first | (refine' flow2_pass (o := _) rfl _ _; (focus rfl); simp only [Act.put, List.setIfInBounds_toArray, List.set_cons_zero, List.set_cons_succ]) | (refine' flow2_take (v := _) (o := _) rfl _ _ _; rotate_left; (focus rfl); (focus (intro wS hS; have hE := Ext.refl wS; (have hup := HU.out wS hS); go_simp; try (with_reducible (first | exact ⟨rfl, hS, hE⟩ | rfl)); done)); simp only [Act.put, List.setIfInBounds_toArray, List.set_cons_zero, List.set_cons_succ]))
            (refine' flow2_take (v := _) (o := _) rfl _ _ _; rotate_left; (focus rfl); (focus (intro wS hS; go_simp; refine (HPI.out wS hS).mono ?_; rintro e w' ⟨rfl, hb⟩; refine ⟨?_, hS.trans (hb.mono hS.size), hb⟩; rfl)); simp only [Act.put, List.setIfInBounds_toArray, List.set_cons_zero, List.set_cons_succ])
            repeat (first | (refine' flow2_pass (o := _) rfl _ _; (focus rfl); simp only [Act.put, List.setIfInBounds_toArray, List.set_cons_zero, List.set_cons_succ]) | (refine' flow2_take (v := _) (o := _) rfl _ _ _; rotate_left; (focus rfl); (focus (intro wS hS; have hE := Ext.refl wS; (skip); go_simp; try (with_reducible (first | exact ⟨rfl, hS, hE⟩ | rfl)); done)); simp only [Act.put, List.setIfInBounds_toArray, List.set_cons_zero, List.set_cons_succ]))
            refine flow2_nil ?_
            intro wT hE hS
            have HT := Lib.hid hS
            clear hE hS
            go_wp2_with fail
            go_meet
            exact ⟨_, rfl, fun hb => ⟨HN2.out, HX1.out hb⟩, fun hb => HX2.out hb, HT.out⟩
          | false =>
            have HB2 := Lib.hid (HB0.out hx)
            have HCL := Lib.hid (fun w => hx ▸ lheld_any xj xk w)
            clear hx HN HB0
            refine wp_region_flow2_lit [(0, false), (1, false), (2, false), (3, false), (4, false), (5, false), (6, false), (7, false), (8, false), (9, false), (10, false), (11, false), (12, false), (13, false), (14, false), (15, false), (16, false), (17, false), (18, false), (19, false), (20, false), (21, false), (22, false), (23, false), (24, false), (25, false)] (fun wS => Below wr.heap.size wr wS) (by kernel_rfl) (by kernel_rfl) (by kernel_rfl) (Below.refl _ _).drew ?_
            repeat (first | (refine' flow2_pass (o := _) rfl _ _; (focus rfl); simp only [Act.put, List.setIfInBounds_toArray, List.set_cons_zero, List.set_cons_succ]) | (refine' flow2_take (v := _) (o := _) rfl _ _ _; rotate_left; (focus rfl); (focus (intro wS hS; have hE := Ext.refl wS; (skip); go_simp; try (with_reducible (first | exact ⟨rfl, hS, hE⟩ | rfl)); done)); simp only [Act.put, List.setIfInBounds_toArray, List.set_cons_zero, List.set_cons_succ]))
            (refine flow2_take (v := .agg (arr xj)) (o := _) rfl rfl (fun wS hS => gives_row rfl rfl (rangeAt_below HE1.out HBL.out hS) ⟨hS, Ext.refl wS⟩) ?_; simp only [Act.put, List.setIfInBounds_toArray, List.set_cons_zero, List.set_cons_succ])
            repeat (first | (refine' flow2_pass (o := _) rfl _ _; (focus rfl); simp only [Act.put, List.setIfInBounds_toArray, List.set_cons_zero, List.set_cons_succ]) | (refine' flow2_take (v := _) (o := _) rfl _ _ _; rotate_left; (focus rfl); (focus (intro wS hS; have hE := Ext.refl wS; (skip); go_simp; try (with_reducible (first | exact ⟨rfl, hS, hE⟩ | rfl)); done)); simp only [Act.put, List.setIfInBounds_toArray, List.set_cons_zero, List.set_cons_succ]))
            (refine flow2_take (v := .agg (arr xk)) (o := _) rfl rfl (fun wS hS => gives_row rfl rfl (rangeAt_below HE.out HBL.out hS) ⟨hS, Ext.refl wS⟩) ?_; simp only [Act.put, List.setIfInBounds_toArray, List.set_cons_zero, List.set_cons_succ])
            (refine' flow2_take (v := _) (o := _) rfl _ _ _; rotate_left; (focus rfl); (focus (intro wS hS; go_simp; refine (HCL.out _).mono ?_; rintro e w' ⟨rfl, hb⟩; refine ⟨?_, hS.trans (hb.mono hS.size), hb⟩; rfl)); simp only [Act.put, List.setIfInBounds_toArray, List.set_cons_zero, List.set_cons_succ])
            repeat (first | (refine' flow2_pass (o := _) rfl _ _; (focus rfl); simp only [Act.put, List.setIfInBounds_toArray, List.set_cons_zero, List.set_cons_succ]) | (refine' flow2_take (v := _) (o := _) rfl _ _ _; rotate_left; (focus rfl); (focus (intro wS hS; have hE := Ext.refl wS; (skip); go_simp; try (with_reducible (first | exact ⟨rfl, hS, hE⟩ | rfl)); done)); simp only [Act.put, List.setIfInBounds_toArray, List.set_cons_zero, List.set_cons_succ]))
            refine flow2_nil ?_
            intro wT hE hS
            have HT := Lib.hid hS
            clear hE hS
            go_wp2_with fail
            go_meet
            exact ⟨true, rfl, fun hb => (nomatch hb), fun _ h => HB2.out h.1, HT.out⟩
        · have h0I : ¬ (0 : Int) < (k : Int) := by omega
          have HN2 : Hid (Srt kH lH (l.take (k + 1))) := Lib.hid (by obtain rfl : k = 0 := (by omega); exact srt_first (by omega))
          generalize (l[k]'hlt) = xk at *
          clear hjE
          refine wp_region_flow2_lit [(0, false), (1, false), (2, false), (3, false), (4, false), (5, false), (6, false), (7, false), (8, false), (9, false), (10, false), (11, false), (12, false), (13, false), (14, false), (15, false), (16, false), (17, false), (18, false), (19, false), (20, false), (21, false), (22, false), (23, false), (24, false), (25, false)] (fun wS => Below wr.heap.size wr wS) (by kernel_rfl) (by kernel_rfl) (by kernel_rfl) (Below.refl _ _).drew ?_
          repeat (first | (refine' flow2_pass (o := _) rfl _ _; (focus rfl); simp only [Act.put, List.setIfInBounds_toArray, List.set_cons_zero, List.set_cons_succ]) | (refine' flow2_take (v := _) (o := _) rfl _ _ _; rotate_left; (focus rfl); (focus (intro wS hS; have hE := Ext.refl wS; (have hup := HU.out wS hS); go_simp; try (with_reducible (first | exact ⟨rfl, hS, hE⟩ | rfl)); done)); simp only [Act.put, List.setIfInBounds_toArray, List.set_cons_zero, List.set_cons_succ]))
          (refine' flow2_take (v := _) (o := _) rfl _ _ _; rotate_left; (focus rfl); (focus (intro wS hS; go_simp; refine (HPI.out wS hS).mono ?_; rintro e w' ⟨rfl, hb⟩; refine ⟨?_, hS.trans (hb.mono hS.size), hb⟩; rfl)); simp only [Act.put, List.setIfInBounds_toArray, List.set_cons_zero, List.set_cons_succ])
          repeat (first | (refine' flow2_pass (o := _) rfl _ _; (focus rfl); simp only [Act.put, List.setIfInBounds_toArray, List.set_cons_zero, List.set_cons_succ]) | (refine' flow2_take (v := _) (o := _) rfl _ _ _; rotate_left; (focus rfl); (focus (intro wS hS; have hE := Ext.refl wS; (skip); go_simp; try (with_reducible (first | exact ⟨rfl, hS, hE⟩ | rfl)); done)); simp only [Act.put, List.setIfInBounds_toArray, List.set_cons_zero, List.set_cons_succ]))
          refine flow2_nil ?_
          intro wT hE hS
          have HT := Lib.hid hS
          clear hE hS
          go_wp2_with fail
          go_meet
          exact ⟨_, rfl, fun hb => ⟨HN2.out, HX1.out hb⟩, fun hb => HX2.out hb, HT.out⟩
      case rest =>
      obtain ⟨bb, rfl, hy, hno, hbl⟩ := hcut
      have HBL2 := Lib.hid (HQ.out.trans (hbl.mono HQ.out.size))
      have HBR := Lib.hid hbl
      clear hbl
      cases bb with
      | false =>
        have HY := Lib.hid (hy rfl)
        clear hy hno
        go_wp2_with fail
        go_roundw
        case rel => exact ⟨k + 1, by omega, by go_num, HY.out.1, HY.out.2, HBL2.out⟩
        case measure => simp [intOf]; omega
      | true =>
        have HNO := Lib.hid (hno rfl)
        clear hy hno
        go_wp2_with fail
        go_returns
        exact ⟨false, rfl, ⟨fun h => (nomatch h), fun h => absurd h HNO.out⟩, HBL2.out⟩
    · have hltI : ¬ (k : Int) < (l.length : Int) := by omega
      obtain rfl : k = l.length := by omega
      have h1 := And.intro HS.out HD.out
      rw [List.take_length] at h1
      have HY := Lib.hid h1
      clear h1
      go_wp2_with fail
      go_returns
      exact ⟨true, rfl, ⟨fun _ => HY.out, fun _ => rfl⟩, HQ.out⟩
def BkP (c : Ca) (l : List Bl) : Prop := Srt kB lB l ∧ l.any (fun y => noF c y.up) = false ∧ (l.map (·.sl)).Nodup
set_option maxHeartbeats 16000000 in
theorem rblocks_any {c : Ca} {cv : Cv} {w : World} (h : CaAt w cv c) : Calls Tryz.prog 75 #[.agg (arr cv)] w (IsV (BkP c c.bs) w) := by
  obtain ⟨Wb, hW⟩ : ∃ Wb, Wb = w.alloc (.cells (arr cv) 30) := ⟨_, rfl⟩
  have hb0 : Below w.heap.size w Wb := by rw [hW]; exact bel_box
  have HX : Hid (Wb.heap[w.heap.size]? = some (.cells (arr cv) 30)) := Lib.hid (by rw [hW]; exact heap_alloc_new _ _)
  have HB := Lib.hid hb0
  have HCA := Lib.hid (h.below hb0)
  have HW := Lib.hid hW
  have hrb := HCA.out.bs
  obtain ⟨A, cap, hv, hlc, hcap⟩ := hrb.any
  rw [hv] at hrb
  have HR := Lib.hid hrb
  have c3 := (cv_cells HX.out).2.2.2
  rw [hv, HW.out] at c3
  clear h hb0 hW hrb hv
  have HNF : Hid (∀ u, decide (plc (fun y => decide (kF y = u)) c.fs < 0) = noF c u) := Lib.hid (plc_noF c)
  have HFS := Lib.hid (fun wS (hS : Below Wb.heap.size Wb wS) u => pfile_any (HCA.out.fs.below hS) u)
  generalize c.bs = l at *
  have hm63 : maxLen = 9223372036854775807 := rfl
  go_enter Tryz.func75, Tryz.ntmps75
  go_wp2_with fail
  rw [← HW.out]
  clear c3
  go_loopw [4] (fun i wq => ∃ k : Nat, k ≤ l.length ∧ i = .int .i64 k ∧ Srt kB lB (l.take k) ∧ (l.take k).any (fun y => noF c y.up) = false ∧ ((l.take k).map (·.sl)).Nodup ∧ Below Wb.heap.size Wb wq) (fun i _ => l.length - (intOf i).toNat)
  case atStart => exact ⟨0, by omega, rfl, .nil, rfl, .nil, Below.refl _ _⟩
  case round =>
    obtain ⟨k, hk, rfl, hs, hf, hn, hbq⟩ := hrel
    have HQ := Lib.hid hbq
    have HS := Lib.hid hs
    have HF := Lib.hid hf
    have HD := Lib.hid hn
    clear hbq hs hf hn
    by_cases hlt : k < l.length
    · have hltI : (k : Int) < (l.length : Int) := by omega
      obtain ⟨b, off, cap', he, _, _⟩ := HR.out.shape (by omega)
      cases he
      have HE := Lib.hid (rangeAt_below (HR.out.range hlt) (HR.out.lt2 (by omega) b rfl) HQ.out)
      have HBL := Lib.hid (Nat.lt_of_lt_of_le (HR.out.lt2 (by omega) b rfl) HQ.out.size)
      have HU : Hid (∀ wS, Below wr.heap.size wr wS → wS.cell? ⟨b, off + k * 3, none⟩ = some (.string l[k].up)) := Lib.hid (fun wS hS => rangeAt_below HE.out HBL.out hS 0 _ rfl)
      have HPI := Lib.hid (fun wS (hS : Below wr.heap.size wr wS) => HFS.out wS (HQ.out.trans (hS.mono HQ.out.size)) l[k].up)
      have HBX : Hid (∀ wS, Below wr.heap.size wr wS → wS.heap[w.heap.size]? = some (.cells (arr cv) 30)) := Lib.hid (fun wS hS => ((HQ.out.trans (hS.mono HQ.out.size)).block _ (heap_lt HX.out)).trans HX.out)
      have HX1 : Hid (decide (plc (fun y => decide (kF y = l[k].up)) c.fs < 0) = false → (l.take (k + 1)).any (fun y => noF c y.up) = false) := Lib.hid (fun hx => any_next hlt HF.out (by rw [← HNF.out]; exact hx))
      have HX2 : Hid (decide (plc (fun y => decide (kF y = l[k].up)) c.fs < 0) = true → ¬ BkP c l) := Lib.hid (fun hx h => any_hit (p := fun y => noF c y.up) hlt (by rw [← HNF.out]; exact hx) h.2.1)
      have HSR : Hid (∀ j (hj : j < l.length), ∀ wS, Below wr.heap.size wr wS → wS.cell? ⟨b, off + j * 3 + 2, none⟩ = some (.int .i64 l[j].sl)) := Lib.hid (fun j hj wS hS => rangeAt_below (rangeAt_below (HR.out.range hj) (HR.out.lt2 (by omega) b rfl) HQ.out) HBL.out hS 2 _ rfl)
      have HND : Hid ((∀ y ∈ l.take k, y.sl ≠ l[k].sl) → ((l.take (k + 1)).map (·.sl)).Nodup) := Lib.hid (fun hno => by
        rw [List.take_succ_eq_append_getElem hlt, List.map_append]
        refine nodup_one HD.out ?_
        cases hh : inS ((l.take k).map (·.sl)) l[k].sl with
        | false => rfl
        | true => obtain ⟨y, hy, e⟩ := List.mem_map.1 (inS_iff.1 hh); exact absurd e (hno y hy))
      have HNN : Hid (∀ j (hj : j < k), (l[j]'(by omega)).sl = l[k].sl → ¬ BkP c l) := Lib.hid (fun j hj e h => in_twice (f := fun y : Bl => y.sl) hlt (inS_iff.2 (List.mem_map.2 ⟨_, List.mem_take_iff_getElem.2 ⟨j, by omega, rfl⟩, e⟩)) h.2.2)
      have HSK := Lib.hid (HSR.out k hlt)
      obtain ⟨P, hPP⟩ : ∃ P, P = plc (fun y => decide (kF y = l[k].up)) c.fs := ⟨_, rfl⟩
      rw [← hPP] at HPI HX1 HX2
      clear hPP
      obtain ⟨sk, hsk⟩ : ∃ s, s = l[k].sl := ⟨_, rfl⟩
      rw [← hsk] at HND HNN HSK
      clear hsk
      go_upto_region 5 with fail
      go_cut [38] from 14 to 38 (fun s wx => ∃ bb : Bool, s = .bool bb ∧ (bb = false → Srt kB lB (l.take (k + 1)) ∧ (l.take (k + 1)).any (fun y => noF c y.up) = false) ∧ (bb = true → ¬ BkP c l) ∧ Below wr.heap.size wr wx)
      case first =>
        have hjE : ∀ j, j = k - 1 → 0 < k → IntKind.i64.wrap ((k : Int) - 1) = (j : Int) := fun j hj h0 => by rw [IntWalk.i64_in _ (by omega)]; omega
        by_cases h0 : 0 < k
        · have h0I : (0 : Int) < (k : Int) := by omega
          have hp : k - 1 < l.length := by omega
          have HE1 := Lib.hid (rangeAt_below (HR.out.range hp) (HR.out.lt2 (by omega) b rfl) HQ.out)
          have HN := Lib.hid (fun hx => srt_next lB_lin hlt h0 hx HS.out)
          have HB0 := Lib.hid (fun hx => srt_break (k := kB) (lt := lB) hlt h0 hx)
          obtain ⟨j, hj⟩ : ∃ j : Nat, j = k - 1 := ⟨_, rfl⟩
          have hjI := hjE j hj h0
          have hjlI : (j : Int) < (l.length : Int) := by omega
          have hjl : j < l.length := by omega
          simp only [← hj] at HE1 HN HB0
          generalize (l[j]'hjl) = xj at HE1 HN HB0
          generalize (l[k]'hlt) = xk at *
          clear hj hjE
          cases hx : lB (kB xj) (kB xk) with
          | true =>
            have HN2 := Lib.hid (HN.out hx)
            have HCL := Lib.hid (fun w => hx ▸ lplaced_any xj xk w)
            clear hx HN HB0
            refine wp_region_flow2_lit [(0, false), (1, false), (2, false), (3, false), (4, false), (5, false), (6, false), (7, false), (8, false), (9, false), (10, false), (11, false), (12, false), (13, false), (14, false), (15, false), (16, false), (17, false), (18, false), (19, false), (20, false), (21, false), (22, false), (23, false), (24, false)] (fun wS => Below wr.heap.size wr wS) (by kernel_rfl) (by kernel_rfl) (by kernel_rfl) (Below.refl _ _).drew ?_
            repeat (first | (refine' flow2_pass (o := _) rfl _ _; (focus rfl); simp only [Act.put, List.setIfInBounds_toArray, List.set_cons_zero, List.set_cons_succ]) | (refine' flow2_take (v := _) (o := _) rfl _ _ _; rotate_left; (focus rfl); (focus (intro wS hS; have hE := Ext.refl wS; (skip); go_simp; try (with_reducible (first | exact ⟨rfl, hS, hE⟩ | rfl)); done)); simp only [Act.put, List.setIfInBounds_toArray, List.set_cons_zero, List.set_cons_succ]))
            (refine flow2_take (v := .agg (arr xj)) (o := _) rfl rfl (fun wS hS => gives_row rfl rfl (rangeAt_below HE1.out HBL.out hS) ⟨hS, Ext.refl wS⟩) ?_; simp only [Act.put, List.setIfInBounds_toArray, List.set_cons_zero, List.set_cons_succ])
            repeat (first | (refine' flow2_pass (o := _) rfl _ _; (focus rfl); simp only [Act.put, List.setIfInBounds_toArray, List.set_cons_zero, List.set_cons_succ]) | (refine' flow2_take (v := _) (o := _) rfl _ _ _; rotate_left; (focus rfl); (focus (intro wS hS; have hE := Ext.refl wS; (skip); go_simp; try (with_reducible (first | exact ⟨rfl, hS, hE⟩ | rfl)); done)); simp only [Act.put, List.setIfInBounds_toArray, List.set_cons_zero, List.set_cons_succ]))
            (refine flow2_take (v := .agg (arr xk)) (o := _) rfl rfl (fun wS hS => gives_row rfl rfl (rangeAt_below HE.out HBL.out hS) ⟨hS, Ext.refl wS⟩) ?_; simp only [Act.put, List.setIfInBounds_toArray, List.set_cons_zero, List.set_cons_succ])
            (refine' flow2_take (v := _) (o := _) rfl _ _ _; rotate_left; (focus rfl); (focus (intro wS hS; go_simp; refine (HCL.out _).mono ?_; rintro e w' ⟨rfl, hb⟩; refine ⟨?_, hS.trans (hb.mono hS.size), hb⟩; rfl)); simp only [Act.put, List.setIfInBounds_toArray, List.set_cons_zero, List.set_cons_succ])
            repeat (first | (refine' flow2_pass (o := _) rfl _ _; (focus rfl); simp only [Act.put, List.setIfInBounds_toArray, List.set_cons_zero, List.set_cons_succ]) | (refine' flow2_take (v := _) (o := _) rfl _ _ _; rotate_left; (focus rfl); (focus (intro wS hS; have hE := Ext.refl wS; (skip); go_simp; try (with_reducible (first | exact ⟨rfl, hS, hE⟩ | rfl)); done)); simp only [Act.put, List.setIfInBounds_toArray, List.set_cons_zero, List.set_cons_succ]))
            (refine flow2_take (v := .agg (arr cv)) (o := _) rfl rfl (fun wS hS => gives_row rfl rfl (range_row (HBX.out wS hS)) ⟨hS, Ext.refl wS⟩) ?_; simp only [Act.put, List.setIfInBounds_toArray, List.set_cons_zero, List.set_cons_succ])
            repeat (first | (refine' flow2_pass (o := _) rfl _ _; (focus rfl); simp only [Act.put, List.setIfInBounds_toArray, List.set_cons_zero, List.set_cons_succ]) | (refine' flow2_take (v := _) (o := _) rfl _ _ _; rotate_left; (focus rfl); (focus (intro wS hS; have hE := Ext.refl wS; (have hup := HU.out wS hS); go_simp; try (with_reducible (first | exact ⟨rfl, hS, hE⟩ | rfl)); done)); simp only [Act.put, List.setIfInBounds_toArray, List.set_cons_zero, List.set_cons_succ]))
            (refine' flow2_take (v := _) (o := _) rfl _ _ _; rotate_left; (focus rfl); (focus (intro wS hS; go_simp; refine (HPI.out wS hS).mono ?_; rintro e w' ⟨rfl, hb⟩; refine ⟨?_, hS.trans (hb.mono hS.size), hb⟩; rfl)); simp only [Act.put, List.setIfInBounds_toArray, List.set_cons_zero, List.set_cons_succ])
            repeat (first | (refine' flow2_pass (o := _) rfl _ _; (focus rfl); simp only [Act.put, List.setIfInBounds_toArray, List.set_cons_zero, List.set_cons_succ]) | (refine' flow2_take (v := _) (o := _) rfl _ _ _; rotate_left; (focus rfl); (focus (intro wS hS; have hE := Ext.refl wS; (skip); go_simp; try (with_reducible (first | exact ⟨rfl, hS, hE⟩ | rfl)); done)); simp only [Act.put, List.setIfInBounds_toArray, List.set_cons_zero, List.set_cons_succ]))
            refine flow2_nil ?_
            intro wT hE hS
            have HT := Lib.hid hS
            clear hE hS
            go_wp2_with fail
            go_meet
            exact ⟨_, rfl, fun hb => ⟨HN2.out, HX1.out hb⟩, fun hb => HX2.out hb, HT.out⟩
          | false =>
            have HB2 := Lib.hid (HB0.out hx)
            have HCL := Lib.hid (fun w => hx ▸ lplaced_any xj xk w)
            clear hx HN HB0
            refine wp_region_flow2_lit [(0, false), (1, false), (2, false), (3, false), (4, false), (5, false), (6, false), (7, false), (8, false), (9, false), (10, false), (11, false), (12, false), (13, false), (14, false), (15, false), (16, false), (17, false), (18, false), (19, false), (20, false), (21, false), (22, false), (23, false), (24, false)] (fun wS => Below wr.heap.size wr wS) (by kernel_rfl) (by kernel_rfl) (by kernel_rfl) (Below.refl _ _).drew ?_
            repeat (first | (refine' flow2_pass (o := _) rfl _ _; (focus rfl); simp only [Act.put, List.setIfInBounds_toArray, List.set_cons_zero, List.set_cons_succ]) | (refine' flow2_take (v := _) (o := _) rfl _ _ _; rotate_left; (focus rfl); (focus (intro wS hS; have hE := Ext.refl wS; (skip); go_simp; try (with_reducible (first | exact ⟨rfl, hS, hE⟩ | rfl)); done)); simp only [Act.put, List.setIfInBounds_toArray, List.set_cons_zero, List.set_cons_succ]))
            (refine flow2_take (v := .agg (arr xj)) (o := _) rfl rfl (fun wS hS => gives_row rfl rfl (rangeAt_below HE1.out HBL.out hS) ⟨hS, Ext.refl wS⟩) ?_; simp only [Act.put, List.setIfInBounds_toArray, List.set_cons_zero, List.set_cons_succ])
            repeat (first | (refine' flow2_pass (o := _) rfl _ _; (focus rfl); simp only [Act.put, List.setIfInBounds_toArray, List.set_cons_zero, List.set_cons_succ]) | (refine' flow2_take (v := _) (o := _) rfl _ _ _; rotate_left; (focus rfl); (focus (intro wS hS; have hE := Ext.refl wS; (skip); go_simp; try (with_reducible (first | exact ⟨rfl, hS, hE⟩ | rfl)); done)); simp only [Act.put, List.setIfInBounds_toArray, List.set_cons_zero, List.set_cons_succ]))
            (refine flow2_take (v := .agg (arr xk)) (o := _) rfl rfl (fun wS hS => gives_row rfl rfl (rangeAt_below HE.out HBL.out hS) ⟨hS, Ext.refl wS⟩) ?_; simp only [Act.put, List.setIfInBounds_toArray, List.set_cons_zero, List.set_cons_succ])
            (refine' flow2_take (v := _) (o := _) rfl _ _ _; rotate_left; (focus rfl); (focus (intro wS hS; go_simp; refine (HCL.out _).mono ?_; rintro e w' ⟨rfl, hb⟩; refine ⟨?_, hS.trans (hb.mono hS.size), hb⟩; rfl)); simp only [Act.put, List.setIfInBounds_toArray, List.set_cons_zero, List.set_cons_succ])
            repeat (first | (refine' flow2_pass (o := _) rfl _ _; (focus rfl); simp only [Act.put, List.setIfInBounds_toArray, List.set_cons_zero, List.set_cons_succ]) | (refine' flow2_take (v := _) (o := _) rfl _ _ _; rotate_left; (focus rfl); (focus (intro wS hS; have hE := Ext.refl wS; (skip); go_simp; try (with_reducible (first | exact ⟨rfl, hS, hE⟩ | rfl)); done)); simp only [Act.put, List.setIfInBounds_toArray, List.set_cons_zero, List.set_cons_succ]))
            refine flow2_nil ?_
            intro wT hE hS
            have HT := Lib.hid hS
            clear hE hS
            go_wp2_with fail
            go_meet
            exact ⟨true, rfl, fun hb => (nomatch hb), fun _ h => HB2.out h.1, HT.out⟩
        · have h0I : ¬ (0 : Int) < (k : Int) := by omega
          have HN2 : Hid (Srt kB lB (l.take (k + 1))) := Lib.hid (by obtain rfl : k = 0 := (by omega); exact srt_first (by omega))
          generalize (l[k]'hlt) = xk at *
          clear hjE
          refine wp_region_flow2_lit [(0, false), (1, false), (2, false), (3, false), (4, false), (5, false), (6, false), (7, false), (8, false), (9, false), (10, false), (11, false), (12, false), (13, false), (14, false), (15, false), (16, false), (17, false), (18, false), (19, false), (20, false), (21, false), (22, false), (23, false), (24, false)] (fun wS => Below wr.heap.size wr wS) (by kernel_rfl) (by kernel_rfl) (by kernel_rfl) (Below.refl _ _).drew ?_
          repeat (first | (refine' flow2_pass (o := _) rfl _ _; (focus rfl); simp only [Act.put, List.setIfInBounds_toArray, List.set_cons_zero, List.set_cons_succ]) | (refine' flow2_take (v := _) (o := _) rfl _ _ _; rotate_left; (focus rfl); (focus (intro wS hS; have hE := Ext.refl wS; (skip); go_simp; try (with_reducible (first | exact ⟨rfl, hS, hE⟩ | rfl)); done)); simp only [Act.put, List.setIfInBounds_toArray, List.set_cons_zero, List.set_cons_succ]))
          (refine flow2_take (v := .agg (arr cv)) (o := _) rfl rfl (fun wS hS => gives_row rfl rfl (range_row (HBX.out wS hS)) ⟨hS, Ext.refl wS⟩) ?_; simp only [Act.put, List.setIfInBounds_toArray, List.set_cons_zero, List.set_cons_succ])
          repeat (first | (refine' flow2_pass (o := _) rfl _ _; (focus rfl); simp only [Act.put, List.setIfInBounds_toArray, List.set_cons_zero, List.set_cons_succ]) | (refine' flow2_take (v := _) (o := _) rfl _ _ _; rotate_left; (focus rfl); (focus (intro wS hS; have hE := Ext.refl wS; (have hup := HU.out wS hS); go_simp; try (with_reducible (first | exact ⟨rfl, hS, hE⟩ | rfl)); done)); simp only [Act.put, List.setIfInBounds_toArray, List.set_cons_zero, List.set_cons_succ]))
          (refine' flow2_take (v := _) (o := _) rfl _ _ _; rotate_left; (focus rfl); (focus (intro wS hS; go_simp; refine (HPI.out wS hS).mono ?_; rintro e w' ⟨rfl, hb⟩; refine ⟨?_, hS.trans (hb.mono hS.size), hb⟩; rfl)); simp only [Act.put, List.setIfInBounds_toArray, List.set_cons_zero, List.set_cons_succ])
          repeat (first | (refine' flow2_pass (o := _) rfl _ _; (focus rfl); simp only [Act.put, List.setIfInBounds_toArray, List.set_cons_zero, List.set_cons_succ]) | (refine' flow2_take (v := _) (o := _) rfl _ _ _; rotate_left; (focus rfl); (focus (intro wS hS; have hE := Ext.refl wS; (skip); go_simp; try (with_reducible (first | exact ⟨rfl, hS, hE⟩ | rfl)); done)); simp only [Act.put, List.setIfInBounds_toArray, List.set_cons_zero, List.set_cons_succ]))
          refine flow2_nil ?_
          intro wT hE hS
          have HT := Lib.hid hS
          clear hE hS
          go_wp2_with fail
          go_meet
          exact ⟨_, rfl, fun hb => ⟨HN2.out, HX1.out hb⟩, fun hb => HX2.out hb, HT.out⟩
      case rest =>
      obtain ⟨bb, rfl, hy, hno, hbl⟩ := hcut
      have HBL2 := Lib.hid (HQ.out.trans (hbl.mono HQ.out.size))
      have HBR := Lib.hid hbl
      clear hbl
      cases bb with
      | true =>
        have HNO := Lib.hid (hno rfl)
        clear hy hno
        go_wp2_with fail
        go_returns
        exact ⟨false, rfl, ⟨fun h => (nomatch h), fun h => absurd h HNO.out⟩, HB.out.trans (HBL2.out.mono HB.out.size)⟩
      | false =>
        have HY := Lib.hid (hy rfl)
        clear hy hno
        go_wp2_with fail
        obtain ⟨w5, hw5⟩ : ∃ w5, w5 = wc := ⟨_, rfl⟩
        subst hw5
        obtain ⟨wo, hwo⟩ : ∃ z, z = wr := ⟨_, rfl⟩
        subst hwo
        go_loopw [5] (fun i wq => ∃ j : Nat, j ≤ k ∧ i = .int .i64 j ∧ (∀ y ∈ l.take j, y.sl ≠ sk) ∧ Below wo.heap.size wo wq) (fun i _ => k - (intOf i).toNat)
        case atStart => exact ⟨0, by omega, rfl, fun y hy => by simp at hy, HBR.out⟩
        case round =>
          obtain ⟨j, hj, rfl, hno, hbj⟩ := hrel
          have HJ := Lib.hid hbj
          have HNJ := Lib.hid hno
          clear hbj hno
          by_cases hjk : j < k
          · have hjkI : (j : Int) < (k : Int) := by omega
            have hjlI : (j : Int) < (l.length : Int) := by omega
            have hjl : j < l.length := by omega
            have HCJ := Lib.hid (HSR.out j hjl)
            have HNX : Hid (∀ y ∈ l.take (j + 1), y ∈ l.take j ∨ y = l[j]) := Lib.hid (fun y hy => by
              rw [List.take_succ_eq_append_getElem hjl] at hy
              rcases List.mem_append.1 hy with h1 | h1
              · exact .inl h1
              · exact .inr (List.mem_singleton.1 h1))
            have HNK := Lib.hid (HNN.out j hjk)
            generalize (l[j]'hjl) = xj at *
            by_cases he : xj.sl = sk
            · have hee : (xj.sl == sk) = true := by simpa using he
              go_wp2_with fail
              refine wp_region_flow2_lit [(0, false), (1, false), (2, false), (3, false), (4, false), (5, false), (6, false), (7, false), (8, false), (9, false), (10, false)] (fun wS => Below wo.heap.size wo wS) (by kernel_rfl) (by kernel_rfl) (by kernel_rfl) HJ.out.drew ?_
              repeat (first | (refine' flow2_pass (o := _) rfl _ _; (focus rfl); simp only [Act.put, List.setIfInBounds_toArray, List.set_cons_zero, List.set_cons_succ]) | (refine' flow2_take (v := _) (o := _) rfl _ _ _; rotate_left; (focus rfl); (focus (intro wS hS; have hE := Ext.refl wS; (have hcj := HCJ.out wS hS; have hck := HSK.out wS hS); go_simp; try (with_reducible (first | exact ⟨rfl, hS, hE⟩ | rfl)); done)); simp only [Act.put, List.setIfInBounds_toArray, List.set_cons_zero, List.set_cons_succ]))
              refine flow2_nil ?_
              intro wT hE hS
              have HT := Lib.hid (HQ.out.trans (hS.mono HQ.out.size))
              clear hE hS
              go_wp2_with fail
              go_returns
              exact ⟨false, rfl, ⟨fun h => (nomatch h), fun h => absurd h (HNK.out he)⟩, HB.out.trans (HT.out.mono HB.out.size)⟩
            · have hee : (xj.sl == sk) = false := by simpa using he
              go_wp2_with fail
              refine wp_region_flow2_lit [(0, false), (1, false), (2, false), (3, false), (4, false), (5, false), (6, false), (7, false), (8, false), (9, false), (10, false)] (fun wS => Below wo.heap.size wo wS) (by kernel_rfl) (by kernel_rfl) (by kernel_rfl) HJ.out.drew ?_
              repeat (first | (refine' flow2_pass (o := _) rfl _ _; (focus rfl); simp only [Act.put, List.setIfInBounds_toArray, List.set_cons_zero, List.set_cons_succ]) | (refine' flow2_take (v := _) (o := _) rfl _ _ _; rotate_left; (focus rfl); (focus (intro wS hS; have hE := Ext.refl wS; (have hcj := HCJ.out wS hS; have hck := HSK.out wS hS); go_simp; try (with_reducible (first | exact ⟨rfl, hS, hE⟩ | rfl)); done)); simp only [Act.put, List.setIfInBounds_toArray, List.set_cons_zero, List.set_cons_succ]))
              refine flow2_nil ?_
              intro wT hE hS
              have HT := Lib.hid hS
              clear hE hS
              go_wp2_with fail
              go_roundw
              case rel => exact ⟨j + 1, by omega, by go_num, fun y hy => by
                rcases HNX.out y hy with h1 | h1
                · exact HNJ.out y h1
                · rw [h1]; exact he, HT.out⟩
              case measure => simp [intOf]; omega
          · have hjkI : ¬ (j : Int) < (k : Int) := by omega
            obtain rfl : j = k := by omega
            have HND2 := Lib.hid (HND.out HNJ.out)
            have HQ2 := Lib.hid (HQ.out.trans (HJ.out.mono HQ.out.size))
            go_wp2_with fail
            go_roundw
            case rel => exact ⟨j + 1, by omega, by go_num, HY.out.1, HY.out.2, HND2.out, HQ2.out⟩
            case measure => simp [intOf]; omega
    · have hltI : ¬ (k : Int) < (l.length : Int) := by omega
      obtain rfl : k = l.length := by omega
      have h1 := And.intro HS.out (And.intro HF.out HD.out)
      rw [List.take_length] at h1
      have HY : Hid (BkP c l) := Lib.hid h1
      clear h1
      go_wp2_with fail
      go_returns
      exact ⟨true, rfl, ⟨fun _ => HY.out, fun _ => rfl⟩, HB.out.trans (HQ.out.mono HB.out.size)⟩
def HdP (l : List Hd) : Prop := Srt kH lH l ∧ (l.map (·.up)).Nodup
def NmP (c : Ca) (l : List Nm) : Prop := Srt kN lN l ∧ l.any (fun y => noF c y.dir) = false
structure OkR (c : Ca) : Prop where
  fs : Srt kF lF c.fs
  ns : NmP c c.ns
  ch : (chgC c).any (fun y => !chkR y) = false
  hs : HdP c.hs
  bs : BkP c c.bs
theorem OkR.okc {c : Ca} (hok : ∀ y ∈ chgC c, y.ok) : OkR c ↔ Okc c := by
  have he : (chgC c).any (fun y => !chkR y) = (chgC c).any (fun y => !chkP y) := by
    rw [Bool.eq_iff_iff, List.any_eq_true, List.any_eq_true]
    exact ⟨fun ⟨y, hy, h⟩ => ⟨y, hy, by rw [← chk_eq (hok y hy)]; exact h⟩, fun ⟨y, hy, h⟩ => ⟨y, hy, by rw [chk_eq (hok y hy)]; exact h⟩⟩
  exact ⟨fun h => ⟨⟨h.hs.1, h.fs, h.ns.1, h.bs.1⟩, h.hs.2, h.bs.2.2, h.ns.2, h.bs.2.1, he ▸ h.ch⟩, fun h => ⟨h.ri.fs, ⟨h.ri.ns, h.nd⟩, he ▸ h.ch, ⟨h.ri.hs, h.hu⟩, ⟨h.ri.bs, h.bd, h.sl⟩⟩⟩
set_option maxHeartbeats 32000000 in
theorem rchk_any {c : Ca} {cv : Cv} {w : World} (h : CaAt w cv c) (hf : Few c 100) : Calls Tryz.prog 31 #[.agg (arr cv)] w (IsV (OkR c) w) := by
  obtain ⟨Wb, hW⟩ : ∃ Wb, Wb = w.alloc (.cells (arr cv) 30) := ⟨_, rfl⟩
  have hb0 : Below w.heap.size w Wb := by rw [hW]; exact bel_box
  have HX : Hid (Wb.heap[w.heap.size]? = some (.cells (arr cv) 30)) := Lib.hid (by rw [hW]; exact heap_alloc_new _ _)
  have HB := Lib.hid hb0
  have HCA := Lib.hid (h.below hb0)
  have HFW := Lib.hid hf
  have HW := Lib.hid hW
  have HRH := HCA.out.hs
  have HRF := HCA.out.fs
  have HRN := HCA.out.ns
  obtain ⟨A1, p1, hv1, q1, _⟩ := HRH.any
  obtain ⟨A2, p2, hv2, q2, _⟩ := HRF.any
  obtain ⟨A3, p3, hv3, q3, _⟩ := HRN.any
  rw [hv1] at HRH
  rw [hv2] at HRF
  rw [hv3] at HRN
  have HRH := Lib.hid HRH
  have HRF := Lib.hid HRF
  have HRN := Lib.hid HRN
  have HCC : Hid (∀ wS, Below Wb.heap.size Wb wS → wS.cell? ⟨w.heap.size, 0, none⟩ = some (.slice A1 c.hs.length p1) ∧ wS.cell? ⟨w.heap.size, 1, none⟩ = some (.slice A2 c.fs.length p2) ∧ wS.cell? ⟨w.heap.size, 2, none⟩ = some (.slice A3 c.ns.length p3)) := Lib.hid (fun wS hS => by
    obtain ⟨h1, h2, h3, _⟩ := cv_cells ((hS.block _ (heap_lt HX.out)).trans HX.out)
    rw [hv1] at h1
    rw [hv2] at h2
    rw [hv3] at h3
    exact ⟨h1, h2, h3⟩)
  have L2 := hf.fs
  have L3 := hf.ns
  clear h hb0 hW hf hv1 hv2 hv3
  have HNF : Hid (∀ u, decide (plc (fun y => decide (kF y = u)) c.fs < 0) = noF c u) := Lib.hid (plc_noF c)
  have HFS := Lib.hid (fun wS (hS : Below Wb.heap.size Wb wS) u => pfile_any (HCA.out.fs.below hS) u)
  have HCG := Lib.hid (fun wS (hS : Below Wb.heap.size Wb wS) => changes_any (HCA.out.below hS) HFW.out)
  have HHD := Lib.hid (fun wS (hS : Below Wb.heap.size Wb wS) => rhandles_any (HRH.out.below hS))
  have HBK := Lib.hid (fun wS (hS : Below Wb.heap.size Wb wS) => rblocks_any (HCA.out.below hS))
  have HCL : Hid ((chgC c).length ≤ 400) := Lib.hid (by have := HFW.out.hs; have := HFW.out.fs; have := HFW.out.ns; have := HFW.out.bs; simp [chgC]; omega)
  have HOK : Hid (Srt kF lF c.fs → NmP c c.ns → (chgC c).any (fun y => !chkR y) = false → HdP c.hs → BkP c c.bs → OkR c) := Lib.hid (fun a b d e f => ⟨a, b, d, e, f⟩)
  have HN1 : Hid (¬ Srt kF lF c.fs → ¬ OkR c) := Lib.hid (fun h k => h k.fs)
  have HN2 : Hid (¬ NmP c c.ns → ¬ OkR c) := Lib.hid (fun h k => h k.ns)
  have HN3 : Hid (¬ ((chgC c).any (fun y => !chkR y) = false) → ¬ OkR c) := Lib.hid (fun h k => h k.ch)
  have HN4 : Hid (¬ HdP c.hs → ¬ OkR c) := Lib.hid (fun h k => h k.hs)
  have HN5 : Hid (¬ BkP c c.bs → ¬ OkR c) := Lib.hid (fun h k => h k.bs)
  change Hid (∀ wS, Below Wb.heap.size Wb wS → Calls _ _ _ wS (IsV (HdP c.hs) wS)) at HHD
  generalize OkR c = OK at *
  generalize HdP c.hs = PH at *
  generalize BkP c c.bs = PB at *
  generalize chgC c = lc at *
  generalize c.fs = lf at *
  generalize c.ns = ln at *
  generalize c.hs.length = nh at *
  have hm63 : maxLen = 9223372036854775807 := rfl
  go_enter Tryz.func31, Tryz.ntmps31
  go_wp2_with fail
  rw [← HW.out]
  go_loopw [3] (fun i wq => ∃ k : Nat, 1 ≤ k ∧ (k ≤ lf.length ∨ k = 1) ∧ i = .int .i64 k ∧ Srt kF lF (lf.take k) ∧ Below Wb.heap.size Wb wq) (fun i _ => lf.length - (intOf i).toNat)
  case atStart => exact ⟨1, by omega, .inr rfl, rfl, srt_one lf, Below.refl _ _⟩
  case round =>
    obtain ⟨k, hk1, hk, rfl, hs, hbq⟩ := hrel
    have HQ := Lib.hid hbq
    have HS := Lib.hid hs
    obtain ⟨-, c1, -⟩ := HCC.out wr hbq
    clear hbq hs
    by_cases hlt : k < lf.length
    · have hltI : (k : Int) < (lf.length : Int) := by omega
      obtain ⟨b, off, cap', he, _, _⟩ := HRF.out.shape (by omega)
      cases he
      have hp : k - 1 < lf.length := by omega
      have HE := Lib.hid (rangeAt_below (HRF.out.range hlt) (HRF.out.lt2 (by omega) b rfl) HQ.out)
      have HE1 := Lib.hid (rangeAt_below (HRF.out.range hp) (HRF.out.lt2 (by omega) b rfl) HQ.out)
      have HBL := Lib.hid (Nat.lt_of_lt_of_le (HRF.out.lt2 (by omega) b rfl) HQ.out.size)
      have hk0 : 0 < k := hk1
      have HN := Lib.hid (fun hx => srt_next lF_lin hlt hk0 hx HS.out)
      have HB0 := Lib.hid (fun hx => HN1.out (srt_break (k := kF) (lt := lF) hlt hk0 hx))
      obtain ⟨j, hj⟩ : ∃ j : Nat, j = k - 1 := ⟨_, rfl⟩
      have hjI : IntKind.i64.wrap ((k : Int) - 1) = (j : Int) := by rw [IntWalk.i64_in _ (by omega)]; omega
      have hjlI : (j : Int) < (lf.length : Int) := by omega
      have hjl : j < lf.length := by omega
      simp only [← hj] at HE1 HN HB0
      generalize (lf[j]'hjl) = xj at HE1 HN HB0
      generalize (lf[k]'hlt) = xk at *
      clear hj
      have HUJ : Hid (∀ wS, Below wr.heap.size wr wS → wS.cell? ⟨b, off + j * 11, none⟩ = some (.string xj.up) ∧ wS.cell? ⟨b, off + k * 11, none⟩ = some (.string xk.up) ∧ wS.cell? ⟨w.heap.size, 1, none⟩ = some (.slice (some ⟨b, off, none⟩) lf.length p2)) := Lib.hid (fun wS hS => ⟨rangeAt_below HE1.out HBL.out hS 0 _ rfl, rangeAt_below HE.out HBL.out hS 0 _ rfl, (HCC.out wS (HQ.out.trans (hS.mono HQ.out.size))).2.1⟩)
      obtain ⟨q, hq⟩ : ∃ q, q = lF (kF xj) (kF xk) := ⟨_, rfl⟩
      have HQQ := Lib.hid hq
      clear hq
      have hq' : Op.bytesLess xj.up.toList xk.up.toList = q := HQQ.out.symm
      cases q
      all_goals
        go_wp2_with fail
        refine wp_region_flow2_lit [(0, false), (1, false), (2, false), (3, false), (4, false), (5, false), (6, false), (7, false), (8, false), (9, false), (10, false), (11, false), (12, false), (13, false)] (fun wS => Below wr.heap.size wr wS) (by kernel_rfl) (by kernel_rfl) (by kernel_rfl) (Below.refl _ _).drew ?_
        repeat (first | (refine' flow2_pass (o := _) rfl _ _; (focus rfl); simp only [Act.put, List.setIfInBounds_toArray, List.set_cons_zero, List.set_cons_succ]) | (refine' flow2_take (v := _) (o := _) rfl _ _ _; rotate_left; (focus rfl); (focus (intro wS hS; have hE := Ext.refl wS; (obtain ⟨d0, d1, d2⟩ := HUJ.out wS hS); go_simp; try (with_reducible (first | exact ⟨rfl, hS, hE⟩ | rfl)); done)); simp only [Act.put, List.setIfInBounds_toArray, List.set_cons_zero, List.set_cons_succ]))
        refine flow2_nil ?_
        intro wT hE hS
        have HT := Lib.hid (HQ.out.trans (hS.mono HQ.out.size))
        clear hE hS c1
        go_wp2_with fail
      · go_returns
        exact ⟨false, rfl, ⟨fun h => (nomatch h), fun h => absurd h (HB0.out HQQ.out.symm)⟩, HB.out.trans (HT.out.mono HB.out.size)⟩
      · go_roundw
        case rel => exact ⟨k + 1, by omega, by omega, by go_num, HN.out HQQ.out.symm, HT.out⟩
        case measure => simp [intOf]; omega
    · have hltI : ¬ (k : Int) < (lf.length : Int) := by omega
      have hsf : Srt kF lF lf := by
        have := HS.out
        rwa [List.take_of_length_le (by omega)] at this
      have HSF := Lib.hid hsf
      clear hsf
      obtain ⟨-, -, c2⟩ := HCC.out wr HQ.out
      go_wp2_with fail
      obtain ⟨w10, hw10⟩ : ∃ z, z = wr := ⟨_, rfl⟩
      subst hw10
      clear c2
      go_loopw [4] (fun i wq => ∃ k : Nat, k ≤ ln.length ∧ i = .int .i64 k ∧ Srt kN lN (ln.take k) ∧ (ln.take k).any (fun y => noF c y.dir) = false ∧ Below Wb.heap.size Wb wq) (fun i _ => ln.length - (intOf i).toNat)
      case atStart => exact ⟨0, by omega, rfl, .nil, rfl, HQ.out⟩
      case round =>
        obtain ⟨k, hk, rfl, hs, hf, hbq⟩ := hrel
        clear HQ HS
        have HQ := Lib.hid hbq
        have HS := Lib.hid hs
        have HF := Lib.hid hf
        obtain ⟨-, -, c2⟩ := HCC.out wr hbq
        clear hbq hs hf
        by_cases hlt : k < ln.length
        · have hltI : (k : Int) < (ln.length : Int) := by omega
          obtain ⟨b, off, cap', he, _, _⟩ := HRN.out.shape (by omega)
          cases he
          have HR := HRN
          have HE := Lib.hid (rangeAt_below (HR.out.range hlt) (HR.out.lt2 (by omega) b rfl) HQ.out)
          have HBL := Lib.hid (Nat.lt_of_lt_of_le (HR.out.lt2 (by omega) b rfl) HQ.out.size)
          have HU : Hid (∀ wS, Below wr.heap.size wr wS → wS.cell? ⟨b, off + k * 3, none⟩ = some (.string ln[k].dir)) := Lib.hid (fun wS hS => rangeAt_below HE.out HBL.out hS 0 _ rfl)
          have HC2 : Hid (∀ wS, Below wr.heap.size wr wS → wS.cell? ⟨w.heap.size, 2, none⟩ = some (.slice (some ⟨b, off, none⟩) ln.length p3)) := Lib.hid (fun wS hS => (HCC.out wS (HQ.out.trans (hS.mono HQ.out.size))).2.2)
          have HPI := Lib.hid (fun wS (hS : Below wr.heap.size wr wS) => HFS.out wS (HQ.out.trans (hS.mono HQ.out.size)) ln[k].dir)
          have HBX : Hid (∀ wS, Below wr.heap.size wr wS → wS.heap[w.heap.size]? = some (.cells (arr cv) 30)) := Lib.hid (fun wS hS => ((HQ.out.trans (hS.mono HQ.out.size)).block _ (heap_lt HX.out)).trans HX.out)
          have HX1 : Hid (decide (plc (fun y => decide (kF y = ln[k].dir)) lf < 0) = false → (ln.take (k + 1)).any (fun y => noF c y.dir) = false) := Lib.hid (fun hx => any_next hlt HF.out (by rw [← HNF.out]; exact hx))
          have HX2 : Hid (decide (plc (fun y => decide (kF y = ln[k].dir)) lf < 0) = true → ¬ NmP c ln) := Lib.hid (fun hx h => any_hit (p := fun y => noF c y.dir) hlt (by rw [← HNF.out]; exact hx) h.2)
          obtain ⟨P, hPP⟩ : ∃ P, P = plc (fun y => decide (kF y = ln[k].dir)) lf := ⟨_, rfl⟩
          rw [← hPP] at HPI HX1 HX2
          clear hPP
          go_upto_region 9 with fail
          clear c2
          go_cut [62] from 35 to 62 (fun s wx => ∃ bb : Bool, s = .bool bb ∧ (bb = false → Srt kN lN (ln.take (k + 1)) ∧ (ln.take (k + 1)).any (fun y => noF c y.dir) = false) ∧ (bb = true → ¬ NmP c ln) ∧ Below wr.heap.size wr wx)
          case first =>
            have hjE : ∀ j, j = k - 1 → 0 < k → IntKind.i64.wrap ((k : Int) - 1) = (j : Int) := fun j hj h0 => by rw [IntWalk.i64_in _ (by omega)]; omega
            by_cases h0 : 0 < k
            · have h0I : (0 : Int) < (k : Int) := by omega
              have hp : k - 1 < ln.length := by omega
              have HE1 := Lib.hid (rangeAt_below (HR.out.range hp) (HR.out.lt2 (by omega) b rfl) HQ.out)
              have HN := Lib.hid (fun hx => srt_next lN_lin hlt h0 hx HS.out)
              have HB0 := Lib.hid (fun hx => srt_break (k := kN) (lt := lN) hlt h0 hx)
              obtain ⟨j, hj⟩ : ∃ j : Nat, j = k - 1 := ⟨_, rfl⟩
              have hjI := hjE j hj h0
              have hjlI : (j : Int) < (ln.length : Int) := by omega
              have hjl : j < ln.length := by omega
              simp only [← hj] at HE1 HN HB0
              generalize (ln[j]'hjl) = xj at HE1 HN HB0
              generalize (ln[k]'hlt) = xk at *
              clear hj hjE
              cases hx : lN (kN xj) (kN xk) with
              | true =>
                have HN2 := Lib.hid (HN.out hx)
                have HCL := Lib.hid (fun w => hx ▸ lknown_any xj xk w)
                clear hx HN HB0
                refine wp_region_flow2_lit [(0, false), (1, false), (2, false), (3, false), (4, false), (5, false), (6, false), (7, false), (8, false), (9, false), (10, false), (11, false), (12, false), (13, false), (14, false), (15, false), (16, false), (17, false), (18, false), (19, false), (20, false), (21, false), (22, false), (23, false), (24, false), (25, false), (26, false), (27, false)] (fun wS => Below wr.heap.size wr wS) (by kernel_rfl) (by kernel_rfl) (by kernel_rfl) (Below.refl _ _).drew ?_
                repeat (first | (refine' flow2_pass (o := _) rfl _ _; (focus rfl); simp only [Act.put, List.setIfInBounds_toArray, List.set_cons_zero, List.set_cons_succ]) | (refine' flow2_take (v := _) (o := _) rfl _ _ _; rotate_left; (focus rfl); (focus (intro wS hS; have hE := Ext.refl wS; (have hc := HC2.out wS hS); go_simp; try (with_reducible (first | exact ⟨rfl, hS, hE⟩ | rfl)); done)); simp only [Act.put, List.setIfInBounds_toArray, List.set_cons_zero, List.set_cons_succ]))
                (refine flow2_take (v := .agg (arr xj)) (o := _) rfl rfl (fun wS hS => gives_row rfl rfl (rangeAt_below HE1.out HBL.out hS) ⟨hS, Ext.refl wS⟩) ?_; simp only [Act.put, List.setIfInBounds_toArray, List.set_cons_zero, List.set_cons_succ])
                repeat (first | (refine' flow2_pass (o := _) rfl _ _; (focus rfl); simp only [Act.put, List.setIfInBounds_toArray, List.set_cons_zero, List.set_cons_succ]) | (refine' flow2_take (v := _) (o := _) rfl _ _ _; rotate_left; (focus rfl); (focus (intro wS hS; have hE := Ext.refl wS; (have hc := HC2.out wS hS); go_simp; try (with_reducible (first | exact ⟨rfl, hS, hE⟩ | rfl)); done)); simp only [Act.put, List.setIfInBounds_toArray, List.set_cons_zero, List.set_cons_succ]))
                (refine flow2_take (v := .agg (arr xk)) (o := _) rfl rfl (fun wS hS => gives_row rfl rfl (rangeAt_below HE.out HBL.out hS) ⟨hS, Ext.refl wS⟩) ?_; simp only [Act.put, List.setIfInBounds_toArray, List.set_cons_zero, List.set_cons_succ])
                (refine' flow2_take (v := _) (o := _) rfl _ _ _; rotate_left; (focus rfl); (focus (intro wS hS; go_simp; refine (HCL.out _).mono ?_; rintro e w' ⟨rfl, hb⟩; refine ⟨?_, hS.trans (hb.mono hS.size), hb⟩; rfl)); simp only [Act.put, List.setIfInBounds_toArray, List.set_cons_zero, List.set_cons_succ])
                repeat (first | (refine' flow2_pass (o := _) rfl _ _; (focus rfl); simp only [Act.put, List.setIfInBounds_toArray, List.set_cons_zero, List.set_cons_succ]) | (refine' flow2_take (v := _) (o := _) rfl _ _ _; rotate_left; (focus rfl); (focus (intro wS hS; have hE := Ext.refl wS; (skip); go_simp; try (with_reducible (first | exact ⟨rfl, hS, hE⟩ | rfl)); done)); simp only [Act.put, List.setIfInBounds_toArray, List.set_cons_zero, List.set_cons_succ]))
                (refine flow2_take (v := .agg (arr cv)) (o := _) rfl rfl (fun wS hS => gives_row rfl rfl (range_row (HBX.out wS hS)) ⟨hS, Ext.refl wS⟩) ?_; simp only [Act.put, List.setIfInBounds_toArray, List.set_cons_zero, List.set_cons_succ])
                repeat (first | (refine' flow2_pass (o := _) rfl _ _; (focus rfl); simp only [Act.put, List.setIfInBounds_toArray, List.set_cons_zero, List.set_cons_succ]) | (refine' flow2_take (v := _) (o := _) rfl _ _ _; rotate_left; (focus rfl); (focus (intro wS hS; have hE := Ext.refl wS; (have hc := HC2.out wS hS; have hup := HU.out wS hS); go_simp; try (with_reducible (first | exact ⟨rfl, hS, hE⟩ | rfl)); done)); simp only [Act.put, List.setIfInBounds_toArray, List.set_cons_zero, List.set_cons_succ]))
                (refine' flow2_take (v := _) (o := _) rfl _ _ _; rotate_left; (focus rfl); (focus (intro wS hS; go_simp; refine (HPI.out wS hS).mono ?_; rintro e w' ⟨rfl, hb⟩; refine ⟨?_, hS.trans (hb.mono hS.size), hb⟩; rfl)); simp only [Act.put, List.setIfInBounds_toArray, List.set_cons_zero, List.set_cons_succ])
                repeat (first | (refine' flow2_pass (o := _) rfl _ _; (focus rfl); simp only [Act.put, List.setIfInBounds_toArray, List.set_cons_zero, List.set_cons_succ]) | (refine' flow2_take (v := _) (o := _) rfl _ _ _; rotate_left; (focus rfl); (focus (intro wS hS; have hE := Ext.refl wS; (skip); go_simp; try (with_reducible (first | exact ⟨rfl, hS, hE⟩ | rfl)); done)); simp only [Act.put, List.setIfInBounds_toArray, List.set_cons_zero, List.set_cons_succ]))
                refine flow2_nil ?_
                intro wT hE hS
                have HT := Lib.hid hS
                clear hE hS
                go_wp2_with fail
                go_meet
                exact ⟨_, rfl, fun hb => ⟨HN2.out, HX1.out hb⟩, fun hb => HX2.out hb, HT.out⟩
              | false =>
                have HB2 := Lib.hid (HB0.out hx)
                have HCL := Lib.hid (fun w => hx ▸ lknown_any xj xk w)
                clear hx HN HB0
                refine wp_region_flow2_lit [(0, false), (1, false), (2, false), (3, false), (4, false), (5, false), (6, false), (7, false), (8, false), (9, false), (10, false), (11, false), (12, false), (13, false), (14, false), (15, false), (16, false), (17, false), (18, false), (19, false), (20, false), (21, false), (22, false), (23, false), (24, false), (25, false), (26, false), (27, false)] (fun wS => Below wr.heap.size wr wS) (by kernel_rfl) (by kernel_rfl) (by kernel_rfl) (Below.refl _ _).drew ?_
                repeat (first | (refine' flow2_pass (o := _) rfl _ _; (focus rfl); simp only [Act.put, List.setIfInBounds_toArray, List.set_cons_zero, List.set_cons_succ]) | (refine' flow2_take (v := _) (o := _) rfl _ _ _; rotate_left; (focus rfl); (focus (intro wS hS; have hE := Ext.refl wS; (have hc := HC2.out wS hS); go_simp; try (with_reducible (first | exact ⟨rfl, hS, hE⟩ | rfl)); done)); simp only [Act.put, List.setIfInBounds_toArray, List.set_cons_zero, List.set_cons_succ]))
                (refine flow2_take (v := .agg (arr xj)) (o := _) rfl rfl (fun wS hS => gives_row rfl rfl (rangeAt_below HE1.out HBL.out hS) ⟨hS, Ext.refl wS⟩) ?_; simp only [Act.put, List.setIfInBounds_toArray, List.set_cons_zero, List.set_cons_succ])
                repeat (first | (refine' flow2_pass (o := _) rfl _ _; (focus rfl); simp only [Act.put, List.setIfInBounds_toArray, List.set_cons_zero, List.set_cons_succ]) | (refine' flow2_take (v := _) (o := _) rfl _ _ _; rotate_left; (focus rfl); (focus (intro wS hS; have hE := Ext.refl wS; (have hc := HC2.out wS hS); go_simp; try (with_reducible (first | exact ⟨rfl, hS, hE⟩ | rfl)); done)); simp only [Act.put, List.setIfInBounds_toArray, List.set_cons_zero, List.set_cons_succ]))
                (refine flow2_take (v := .agg (arr xk)) (o := _) rfl rfl (fun wS hS => gives_row rfl rfl (rangeAt_below HE.out HBL.out hS) ⟨hS, Ext.refl wS⟩) ?_; simp only [Act.put, List.setIfInBounds_toArray, List.set_cons_zero, List.set_cons_succ])
                (refine' flow2_take (v := _) (o := _) rfl _ _ _; rotate_left; (focus rfl); (focus (intro wS hS; go_simp; refine (HCL.out _).mono ?_; rintro e w' ⟨rfl, hb⟩; refine ⟨?_, hS.trans (hb.mono hS.size), hb⟩; rfl)); simp only [Act.put, List.setIfInBounds_toArray, List.set_cons_zero, List.set_cons_succ])
                repeat (first | (refine' flow2_pass (o := _) rfl _ _; (focus rfl); simp only [Act.put, List.setIfInBounds_toArray, List.set_cons_zero, List.set_cons_succ]) | (refine' flow2_take (v := _) (o := _) rfl _ _ _; rotate_left; (focus rfl); (focus (intro wS hS; have hE := Ext.refl wS; (skip); go_simp; try (with_reducible (first | exact ⟨rfl, hS, hE⟩ | rfl)); done)); simp only [Act.put, List.setIfInBounds_toArray, List.set_cons_zero, List.set_cons_succ]))
                refine flow2_nil ?_
                intro wT hE hS
                have HT := Lib.hid hS
                clear hE hS
                go_wp2_with fail
                go_meet
                exact ⟨true, rfl, fun hb => (nomatch hb), fun _ h => HB2.out h.1, HT.out⟩
            · have h0I : ¬ (0 : Int) < (k : Int) := by omega
              have HN2 : Hid (Srt kN lN (ln.take (k + 1))) := Lib.hid (by obtain rfl : k = 0 := (by omega); exact srt_first (by omega))
              generalize (ln[k]'hlt) = xk at *
              clear hjE
              refine wp_region_flow2_lit [(0, false), (1, false), (2, false), (3, false), (4, false), (5, false), (6, false), (7, false), (8, false), (9, false), (10, false), (11, false), (12, false), (13, false), (14, false), (15, false), (16, false), (17, false), (18, false), (19, false), (20, false), (21, false), (22, false), (23, false), (24, false), (25, false), (26, false), (27, false)] (fun wS => Below wr.heap.size wr wS) (by kernel_rfl) (by kernel_rfl) (by kernel_rfl) (Below.refl _ _).drew ?_
              repeat (first | (refine' flow2_pass (o := _) rfl _ _; (focus rfl); simp only [Act.put, List.setIfInBounds_toArray, List.set_cons_zero, List.set_cons_succ]) | (refine' flow2_take (v := _) (o := _) rfl _ _ _; rotate_left; (focus rfl); (focus (intro wS hS; have hE := Ext.refl wS; (skip); go_simp; try (with_reducible (first | exact ⟨rfl, hS, hE⟩ | rfl)); done)); simp only [Act.put, List.setIfInBounds_toArray, List.set_cons_zero, List.set_cons_succ]))
              (refine flow2_take (v := .agg (arr cv)) (o := _) rfl rfl (fun wS hS => gives_row rfl rfl (range_row (HBX.out wS hS)) ⟨hS, Ext.refl wS⟩) ?_; simp only [Act.put, List.setIfInBounds_toArray, List.set_cons_zero, List.set_cons_succ])
              repeat (first | (refine' flow2_pass (o := _) rfl _ _; (focus rfl); simp only [Act.put, List.setIfInBounds_toArray, List.set_cons_zero, List.set_cons_succ]) | (refine' flow2_take (v := _) (o := _) rfl _ _ _; rotate_left; (focus rfl); (focus (intro wS hS; have hE := Ext.refl wS; (have hc := HC2.out wS hS; have hup := HU.out wS hS); go_simp; try (with_reducible (first | exact ⟨rfl, hS, hE⟩ | rfl)); done)); simp only [Act.put, List.setIfInBounds_toArray, List.set_cons_zero, List.set_cons_succ]))
              (refine' flow2_take (v := _) (o := _) rfl _ _ _; rotate_left; (focus rfl); (focus (intro wS hS; go_simp; refine (HPI.out wS hS).mono ?_; rintro e w' ⟨rfl, hb⟩; refine ⟨?_, hS.trans (hb.mono hS.size), hb⟩; rfl)); simp only [Act.put, List.setIfInBounds_toArray, List.set_cons_zero, List.set_cons_succ])
              repeat (first | (refine' flow2_pass (o := _) rfl _ _; (focus rfl); simp only [Act.put, List.setIfInBounds_toArray, List.set_cons_zero, List.set_cons_succ]) | (refine' flow2_take (v := _) (o := _) rfl _ _ _; rotate_left; (focus rfl); (focus (intro wS hS; have hE := Ext.refl wS; (skip); go_simp; try (with_reducible (first | exact ⟨rfl, hS, hE⟩ | rfl)); done)); simp only [Act.put, List.setIfInBounds_toArray, List.set_cons_zero, List.set_cons_succ]))
              refine flow2_nil ?_
              intro wT hE hS
              have HT := Lib.hid hS
              clear hE hS
              go_wp2_with fail
              go_meet
              exact ⟨_, rfl, fun hb => ⟨HN2.out, HX1.out hb⟩, fun hb => HX2.out hb, HT.out⟩
          case rest =>
          obtain ⟨bb, rfl, hy, hno, hbl⟩ := hcut
          have HBL2 := Lib.hid (HQ.out.trans (hbl.mono HQ.out.size))
          clear hbl
          cases bb with
          | true =>
            have HNO := Lib.hid (HN2.out (hno rfl))
            clear hy hno
            go_wp2_with fail
            go_returns
            exact ⟨false, rfl, ⟨fun h => (nomatch h), fun h => absurd h HNO.out⟩, HB.out.trans (HBL2.out.mono HB.out.size)⟩
          | false =>
            have HY := Lib.hid (hy rfl)
            clear hy hno
            go_wp2_with fail
            go_roundw
            case rel => exact ⟨k + 1, by omega, by go_num, HY.out.1, HY.out.2, HBL2.out⟩
            case measure => simp [intOf]; omega
        · have hltI : ¬ (k : Int) < (ln.length : Int) := by omega
          obtain rfl : k = ln.length := by omega
          have hnm : NmP c ln := by
            have h1 := HS.out
            have h2 := HF.out
            rw [List.take_length] at h1 h2
            exact ⟨h1, h2⟩
          have HNM := Lib.hid hnm
          have HXR := Lib.hid ((HQ.out.block _ (heap_lt HX.out)).trans HX.out)
          clear hnm
          go_wp2_with (refine rw_load (α := Cv) rfl (.tmp 1) rfl w.heap.size 0 rfl cv (range_row HXR.out) ?_)
          refine (HCG.out _ HQ.out).mono ?_
          rintro r w20 ⟨vl, rfl, hr20, hb20⟩
          obtain ⟨A4, p4, hv4, q4, _⟩ := hr20.any
          subst hv4
          have HR20 := Lib.hid hr20
          have HQ20 := Lib.hid (HQ.out.trans (hb20.mono HQ.out.size))
          have hl4 := HCL.out
          clear hr20 hb20 c2
          go_wp2_with fail
          go_loopw [6] (fun i wq => ∃ k : Nat, k ≤ lc.length ∧ i = .int .i64 k ∧ (lc.take k).any (fun y => !chkR y) = false ∧ Below w20.heap.size w20 wq) (fun i _ => lc.length - (intOf i).toNat)
          case atStart => exact ⟨0, by omega, rfl, rfl, Below.refl _ _⟩
          case round =>
            obtain ⟨k, hk, rfl, hf, hbq⟩ := hrel
            clear HQ HF
            have HQ := Lib.hid hbq
            have HF := Lib.hid hf
            clear hbq hf
            by_cases hlt : k < lc.length
            · have hltI : (k : Int) < (lc.length : Int) := by omega
              obtain ⟨b, off, cap', he, _, _⟩ := HR20.out.shape (by omega)
              cases he
              have HE := Lib.hid (rangeAt_below (HR20.out.range hlt) (HR20.out.lt b rfl) HQ.out)
              have HNX := Lib.hid (fun hx => any_next (p := fun y => !chkR y) hlt HF.out hx)
              have HNH := Lib.hid (fun hx => HN3.out (any_hit (p := fun y => !chkR y) hlt hx))
              have HCK := Lib.hid (rcheck_any lc[k] wr)
              generalize lc[k] = x at *
              generalize chkR x = q at *
              go_wp2_with (refine rw_load (α := Ch) rfl (.tmp 73) rfl b (off + k * 18) rfl x HE.out ?_)
              refine HCK.out.mono ?_
              rintro r w21 ⟨rfl, hb21⟩
              have HQ21 := Lib.hid (HQ.out.trans (hb21.mono HQ.out.size))
              clear hb21
              cases q with
              | false =>
                have HNO := Lib.hid (HNH.out rfl)
                clear HNX HNH
                go_wp2_with fail
                go_returns
                exact ⟨false, rfl, ⟨fun h => (nomatch h), fun h => absurd h HNO.out⟩, HB.out.trans ((HQ20.out.trans (HQ21.out.mono HQ20.out.size)).mono HB.out.size)⟩
              | true =>
                have HYE := Lib.hid (HNX.out rfl)
                clear HNX HNH
                go_wp2_with fail
                go_roundw
                case rel => exact ⟨k + 1, by omega, by go_num, HYE.out, HQ21.out⟩
                case measure => simp [intOf]; omega
            · have hltI : ¬ (k : Int) < (lc.length : Int) := by omega
              obtain rfl : k = lc.length := by omega
              have hch := HF.out
              rw [List.take_length] at hch
              have HCH := Lib.hid hch
              have HQ30 := Lib.hid (HQ20.out.trans (HQ.out.mono HQ20.out.size))
              obtain ⟨c0, -, -⟩ := HCC.out wr HQ30.out
              clear hch
              go_wp2_with fail
              refine (HHD.out _ HQ30.out).mono ?_
              rintro r w31 ⟨b1, rfl, hi1, hb31⟩
              have HQ31 := Lib.hid (HQ30.out.trans (hb31.mono HQ30.out.size))
              have HX31 := Lib.hid ((HQ31.out.block _ (heap_lt HX.out)).trans HX.out)
              clear hb31 c0
              cases b1 with
              | false =>
                have HNO := Lib.hid (HN4.out (fun h => nomatch (hi1.2 h)))
                clear hi1
                go_wp2_with fail
                go_returns
                exact ⟨false, rfl, ⟨fun h => (nomatch h), fun h => absurd h HNO.out⟩, HB.out.trans (HQ31.out.mono HB.out.size)⟩
              | true =>
                have HH := Lib.hid (hi1.1 rfl)
                clear hi1
                go_wp2_with (refine rg_load (α := Cv) rfl (.tmp 1) rfl w.heap.size 0 rfl cv (range_row HX31.out) ?_)
                refine (HBK.out _ HQ31.out).mono ?_
                rintro r w32 ⟨b2, rfl, hi2, hb32⟩
                have HQ32 := Lib.hid (HQ31.out.trans (hb32.mono HQ31.out.size))
                have HI2 : Hid (b2 = true ↔ OK) := Lib.hid ⟨fun h => HOK.out HSF.out HNM.out HCH.out HH.out (hi2.1 h), fun h => by
                  cases b2 with
                  | true => rfl
                  | false => exact absurd h (HN5.out (fun h => nomatch (hi2.2 h)))⟩
                clear hb32 hi2
                go_wp2_with fail
                go_returns
                exact ⟨b2, rfl, HI2.out, HB.out.trans (HQ32.out.mono HB.out.size)⟩
end Go.Proofs.YtokhnbdhcehonaaGreat.O
