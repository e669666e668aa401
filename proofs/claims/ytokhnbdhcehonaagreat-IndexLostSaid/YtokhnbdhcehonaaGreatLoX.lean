/- index: Lost. -/
import Derived.Test.YtokhnbdhcehonaaGreatLoS
import Derived.Test.YtokhnbdhcehonaaGreatBare
import Derived.Test.YtokhnbdhcehonaaGreatBase
import Derived.Test.YtokhnbdhcehonaaGreatIcV
import Derived.Test.YtokhnbdhcehonaaGreatLg
import Derived.Test.YtokhnbdhcehonaaGreatOpen18
set_option linter.unusedSimpArgs false
set_option linter.unusedVariables false
namespace Go.Proofs.YtokhnbdhcehonaaGreat
open Go Go.RowKit Row
set_option maxRecDepth 100000
theorem lost1_pb {B b : Nat} {w : World} (q : Bl) (hb : w.heap[b]? = some (.cells (arr q) 59)) (hlt : b < B) : PB B w 86 #[.pointer (some ⟨b, 0, none⟩)] (fun y : Bl => y.sl == q.sl) := by
  refine ⟨fun args w => enters_of Tryz.func86 (by kernel_rfl) rfl args w, fun W y hW => ?_⟩
  have hbW := (hW.block b hlt).trans hb
  have hx := heap_old_at (o := .cells (arr y) 59) hbW
  have hy := heap_alloc_new W (.cells (arr y) 59)
  have x0 : (W.alloc (.cells (arr y) 59)).cell? ⟨b, 2, none⟩ = some (.int .i64 q.sl) := by rw [row_cell hx]; rfl
  have y0 : (W.alloc (.cells (arr y) 59)).cell? ⟨W.heap.size, 2, none⟩ = some (.int .i64 y.sl) := by rw [row_cell hy]; rfl
  have HB : Hid (Below W.heap.size W (W.alloc (.cells (arr y) 59))) := Lib.hid (by go_grown)
  clear hbW hb hW hx hy
  show Calls _ _ #[.agg (arr y), .pointer (some ⟨b, 0, none⟩)] _ _
  go_enter Tryz.func86, Tryz.ntmps86
  go_wp2_with fail
  go_ret
  exact ⟨rfl, HB.out⟩
/-- is a slot none of these -/
def goneB (m : List Bl) (y : Bl) : Bool := !(m.any (fun z => z.sl == y.sl))
def lostL (l m : List Bl) : List Int := (l.filter (goneB m)).map (·.sl)
theorem lost_yes {l m : List Bl} {k : Nat} (hk : k < l.length) (h : goneB m l[k] = true) : lostL (l.take (k + 1)) m = lostL (l.take k) m ++ [l[k].sl] := by
  unfold lostL
  rw [List.take_succ_eq_append_getElem hk, List.filter_append, List.map_append]
  simp [h]
theorem lost_no {l m : List Bl} {k : Nat} (hk : k < l.length) (h : goneB m l[k] = false) : lostL (l.take (k + 1)) m = lostL (l.take k) m := by
  unfold lostL
  rw [List.take_succ_eq_append_getElem hk, List.filter_append, List.map_append]
  simp [h]
theorem lost_len (l m : List Bl) : (lostL l m).length ≤ l.length := by
  unfold lostL
  rw [List.length_map]
  exact List.length_filter_le _ _
theorem srtI_lt {l : List Int} (h : l.Nodup) : (srtI l).Pairwise (· < ·) := by
  have h1 : (srtI l).Pairwise (fun a b => decide (a ≤ b) = true) := List.pairwise_mergeSort (fun a b c h1 h2 => by simp at *; omega) (fun a b => by simp; omega) l
  have h2 : (srtI l).Nodup := (List.mergeSort_perm l _).nodup_iff.2 h
  exact (h1.and h2).imp fun h => by
    have := of_decide_eq_true h.1
    have := h.2
    omega
set_option maxHeartbeats 16000000 in
theorem ilost_any {c d : Ca} {cv dv : Cv} {w : World} (h : CaAt w cv c) (k : CaAt w dv d) (hf : Few c 100) (hnd : (lostL c.bs d.bs).Nodup) :
    Calls Tryz.prog 35 #[.agg (arr cv), .agg (arr dv)] w fun r w' => ∃ v', r = .returned v' ∧ Is w' 0 v' (srtI (lostL c.bs d.bs)) ∧ Below w.heap.size w w' := by
  obtain ⟨W, hW⟩ : ∃ W, W = (w.alloc (.cells (arr cv) 30)).alloc (.cells (arr dv) 30) := ⟨_, rfl⟩
  have hb0 : Below w.heap.size w W := by rw [hW]; go_grown
  have HX : Hid (W.heap[w.heap.size]? = some (.cells (arr cv) 30)) := Lib.hid (by rw [hW]; exact heap_old_at (heap_alloc_new _ _))
  have HY : Hid (W.heap[w.heap.size + 1]? = some (.cells (arr dv) 30)) := Lib.hid (by rw [hW]; exact heap_new_at _ _ (alloc_size _ _))
  have HB := Lib.hid hb0
  have HW := Lib.hid hW
  have hrb := h.bs.below hb0
  have hrd := k.bs.below hb0
  obtain ⟨A, cap, hv, hlc, hcap⟩ := hrb.any
  rw [hv] at hrb
  have HR := Lib.hid hrb
  have HD := Lib.hid hrd
  have hlen : c.bs.length ≤ 100 := hf.bs
  have c3 := (cv_cells HX.out).2.2.2
  rw [hv, HW.out] at c3
  have HSL := Lib.hid (srtI_lt hnd)
  clear h k hb0 hW hrb hrd hv hf hnd
  generalize c.bs = l at *
  generalize d.bs = m at *
  have hm63 : maxLen = 9223372036854775807 := rfl
  go_enter Tryz.func35, Tryz.ntmps35
  go_wp2_with fail
  rw [← HW.out]
  clear c3
  go_loopw [5, 11] (fun vo i wq => ∃ k : Nat, k ≤ l.length ∧ i = .int .i64 k ∧ Oi W wq vo (lostL (l.take k) m)) (fun _ i _ => l.length - (intOf i).toNat)
  case atStart => exact ⟨0, by omega, rfl, .start W⟩
  case round =>
    obtain ⟨k, hk, rfl, ho⟩ := hrel
    have HO := Lib.hid ho
    clear ho
    by_cases hlt : k < l.length
    · have hltI : (k : Int) < (l.length : Int) := by omega
      obtain ⟨b, off, cap', he, _, _⟩ := HR.out.shape (by omega)
      cases he
      have HE := Lib.hid (rangeAt_below (HR.out.range hlt) (HR.out.lt b rfl) HO.out.bl)
      have HO1 := Lib.hid (HO.out.below (bel_box (o := .cells (arr l[k]) (RowT.T Bl))))
      have HN := Lib.hid (heap_alloc_new wr (.cells (arr l[k]) (RowT.T Bl)))
      have HLE : Hid ((lostL (l.take k) m).length < 1000000) := Lib.hid (by have := lost_len (l.take k) m; rw [List.length_take] at this; omega)
      have HY1 := Lib.hid (fun h => lost_yes (m := m) hlt h)
      have HN1 := Lib.hid (fun h => lost_no (m := m) hlt h)
      have HDV : Hid ((wr.alloc (.cells (arr l[k]) (RowT.T Bl))).cell? ⟨w.heap.size + 1, 3, none⟩ = some dv.d.v) := Lib.hid (cv_cells ((HO1.out.bl.block _ (heap_lt HY.out)).trans HY.out)).2.2.2
      have HCB := Lib.hid (cb_any (lost1_pb l[k] HN.out (Nat.lt_succ_self _)) (by rw [alloc_size]; exact Nat.le_refl _) (HD.out.below HO1.out.bl))
      change Hid (Calls _ _ _ _ fun e w' => e = .returned (.bool (m.any (fun z => z.sl == l[k].sl))) ∧ _) at HCB
      have HGB : Hid (goneB m l[k] = !(m.any (fun z => z.sl == l[k].sl))) := Lib.hid rfl
      generalize m.any (fun z => z.sl == l[k].sl) = q at HCB HGB
      generalize lostL (l.take k) m = out at *
      generalize l[k] = x at *
      have hdv := HDV.out
      obtain ⟨A2, kap2, hv2, _, _⟩ := HD.out.any
      rw [hv2] at hdv HCB
      go_wp2_with (first
        | (refine rw_put (α := Bl) _ 7 (.tmp 14) rfl rfl rfl rfl rfl rfl x rfl rfl ?_)
        | (refine rw_load (α := Bl) rfl (.tmp 13) rfl b (off + k * 3) rfl x HE.out ?_))
      refine HCB.out.mono ?_
      rintro r w3 ⟨rfl, hb3⟩
      have HO3 := Lib.hid (HO1.out.below hb3)
      have hn3 := (hb3.block _ (heap_lt HN.out)).trans HN.out
      have y0 : w3.cell? ⟨wr.heap.size, 2, none⟩ = some (.int .i64 x.sl) := by rw [row_cell hn3]; rfl
      clear hb3 hn3 hdv
      cases q with
      | true =>
        have HN2 := Lib.hid (HN1.out HGB.out)
        go_wp2_with fail
        go_roundw
        case rel => exact ⟨k + 1, by omega, by go_num, by rw [HN2.out]; exact HO3.out⟩
        case measure => simp [intOf]; omega
      | false =>
        have HY2 := Lib.hid (HY1.out HGB.out)
        go_wp2_with (at_builtin; refine iw_append rfl (.tmp 20) (.tmp 23) rfl HO3.out HLE.out x.sl rfl rfl ?_; intro v' w4 ho4; have HO4 := Lib.hid ho4; clear ho4)
        go_roundw
        case rel => exact ⟨k + 1, by omega, by go_num, by rw [HY2.out]; exact HO4.out⟩
        case measure => simp [intOf]; omega
    · have hltI : ¬ (k : Int) < (l.length : Int) := by omega
      obtain rfl : k = l.length := by omega
      have ho := HO.out
      rw [List.take_length] at ho
      have HO5 := Lib.hid ho
      clear ho
      have HLE : Hid ((lostL l m).length ≤ 1000000) := Lib.hid (by have := lost_len l m; omega)
      go_wp2_with fail
      refine (sort_any HO5.out HLE.out).mono ?_
      rintro r w6 ⟨rfl, ho6⟩
      have HO6 := Lib.hid ho6
      clear ho6
      go_wp2_with fail
      refine (compact_any HO6.out (by rw [srtI_len]; exact HLE.out) HSL.out).mono ?_
      rintro r w7 ⟨rfl, ho7⟩
      have HO7 := Lib.hid ho7
      clear ho7
      go_wp2_with fail
      go_ret
      exact ⟨_, rfl, HO7.out.rs.mono (Nat.zero_le _), HB.out.trans (HO7.out.bl.mono HB.out.size)⟩
end Go.Proofs.YtokhnbdhcehonaaGreat
/- index: the document's Lost; two lists of ints. -/
namespace Go.Proofs.YtokhnbdhcehonaaGreat
open Go Go.RowKit Row
set_option maxRecDepth 100000
theorem inc_eq : ∀ {l m : List Int}, l.Pairwise (· < ·) → m.Pairwise (· < ·) → (∀ x, x ∈ l ↔ x ∈ m) → l = m
  | [], [], _, _, _ => rfl
  | [], y :: m, _, _, h => by have := (h y).2 (by simp); cases this
  | x :: l, [], _, _, h => by have := (h x).1 (by simp); cases this
  | x :: l, y :: m, hl, hm, h => by
    rw [List.pairwise_cons] at hl hm
    have e : x = y := by
      rcases List.mem_cons.1 ((h x).1 (by simp)) with e | h1
      · exact e
      · rcases List.mem_cons.1 ((h y).2 (by simp)) with e | h2
        · exact e.symm
        · have a := hm.1 x h1
          have b := hl.1 y h2
          omega
    subst e
    refine congrArg _ (inc_eq hl.2 hm.2 fun z => ⟨fun hz => ?_, fun hz => ?_⟩)
    · rcases List.mem_cons.1 ((h z).1 (List.mem_cons_of_mem _ hz)) with e | h1
      · have := hl.1 z hz; omega
      · exact h1
    · rcases List.mem_cons.1 ((h z).2 (List.mem_cons_of_mem _ hz)) with e | h1
      · have := hm.1 z hz; omega
      · exact h1
def atS (l : List Bl) (s : Int) : Bool := l.any fun y => y.sl == s
def pL (l m : List Bl) (s : Int) : Bool := atS l s && !atS m s
def refL (l m : List Bl) : Nat → List Int
  | 0 => []
  | s + 1 => refL l m s ++ (if pL l m s = true then [(s : Int)] else [])
theorem refL_mem (l m : List Bl) (s : Nat) (x : Int) : x ∈ refL l m s ↔ 0 ≤ x ∧ x < s ∧ pL l m x = true := by
  induction s with
  | zero => simp [refL]; omega
  | succ s ih =>
    rw [refL, List.mem_append, ih]
    constructor
    · rintro (⟨h1, h2, h3⟩ | h)
      · exact ⟨h1, by omega, h3⟩
      · split at h
        · rename_i hp
          rw [List.mem_singleton.1 h]
          exact ⟨by omega, by omega, hp⟩
        · cases h
    · rintro ⟨h1, h2, h3⟩
      by_cases e : x = s
      · right
        subst e
        rw [if_pos h3]; simp
      · exact .inl ⟨h1, by omega, h3⟩
theorem refL_inc (l m : List Bl) (s : Nat) : (refL l m s).Pairwise (· < ·) := by
  induction s with
  | zero => exact .nil
  | succ s ih =>
    rw [refL, List.pairwise_append]
    refine ⟨ih, by split <;> simp, fun a ha b hb => ?_⟩
    have := (refL_mem l m s a).1 ha
    split at hb
    · rw [List.mem_singleton.1 hb]; omega
    · cases hb
theorem refL_more (l m : List Bl) (s k : Nat) : ∃ r, refL l m (s + k) = refL l m s ++ r := by
  induction k with
  | zero => exact ⟨[], by simp⟩
  | succ k ih =>
    obtain ⟨r, hr⟩ := ih
    exact ⟨r ++ (if pL l m ((s + k : Nat) : Int) = true then [((s + k : Nat) : Int)] else []), by rw [← List.append_assoc, ← hr]; rfl⟩
/-- slots as a valid cache has them -/
structure SlOk (l : List Bl) : Prop where
  nd : (l.map (·.sl)).Nodup
  lim : ∀ y ∈ l, 0 ≤ y.sl ∧ y.sl ≤ 65535
theorem atS_iff {l : List Bl} {s : Int} : atS l s = true ↔ ∃ y ∈ l, y.sl = s := by simp [atS]
theorem lost_mem {l m : List Bl} {x : Int} : x ∈ lostL l m ↔ pL l m x = true := by
  unfold lostL pL
  rw [List.mem_map, Bool.and_eq_true, Bool.not_eq_true']
  constructor
  · rintro ⟨y, hy, rfl⟩
    obtain ⟨h1, h2⟩ := List.mem_filter.1 hy
    refine ⟨atS_iff.2 ⟨y, h1, rfl⟩, ?_⟩
    unfold goneB at h2
    simpa [atS] using h2
  · rintro ⟨h1, h2⟩
    obtain ⟨y, hy, rfl⟩ := atS_iff.1 h1
    refine ⟨y, List.mem_filter.2 ⟨hy, ?_⟩, rfl⟩
    unfold goneB
    simpa [atS] using h2
theorem lost_nodup {l m : List Bl} (h : SlOk l) : (lostL l m).Nodup := by
  unfold lostL
  exact List.Pairwise.sublist (List.Sublist.map _ List.filter_sublist) h.nd
theorem refL_full {l m : List Bl} (h : SlOk l) : refL l m 65536 = srtI (lostL l m) := by
  refine inc_eq (refL_inc l m _) (srtI_lt (lost_nodup h)) fun x => ?_
  have hp : x ∈ srtI (lostL l m) ↔ x ∈ lostL l m := (List.mergeSort_perm _ _).mem_iff
  rw [refL_mem, hp, lost_mem]
  refine ⟨fun h => h.2.2, fun hx => ?_⟩
  have h1 := hx
  unfold pL at h1
  rw [Bool.and_eq_true] at h1
  obtain ⟨y, hy, rfl⟩ := atS_iff.1 h1.1
  have := h.lim y hy
  exact ⟨by omega, by omega, hx⟩
theorem refL_end {l m : List Bl} (h : SlOk l) {s : Nat} (hs : s ≤ 65536) (he : s = 65536 ∨ l.length ≤ (refL l m s).length) : refL l m s = srtI (lostL l m) := by
  rcases he with rfl | he
  · exact refL_full h
  · obtain ⟨r, hr⟩ := refL_more l m s (65536 - s)
    rw [show s + (65536 - s) = 65536 by omega, refL_full h] at hr
    have h1 := congrArg List.length hr
    rw [srtI_len, List.length_append] at h1
    have h2 := lost_len l m
    have h3 : r = [] := List.length_eq_zero_iff.1 (by omega)
    rw [hr, h3, List.append_nil]
theorem at_next {l : List Bl} {s : Int} {j : Nat} (hj : j < l.length) : atS (l.take (j + 1)) s = (atS (l.take j) s || (l[j].sl == s)) := by
  unfold atS
  rw [List.take_succ_eq_append_getElem hj, List.any_append]
  simp
set_option maxHeartbeats 8000000 in
theorem ints_any {l : List Int} {v u : Value} {w : World} (h : Is w 0 v l) (k : Is w 0 u l) : Calls Tryz.prog 34 #[v, u] w fun r w' => r = .returned (.bool true) ∧ Below w.heap.size w w' := by
  obtain ⟨A, cap, hv, hlc, hcap⟩ := h.any
  subst hv
  obtain ⟨A2, cap2, hv2, hlc2, hcap2⟩ := k.any
  subst hv2
  have HR := Lib.hid h
  have HR2 := Lib.hid k
  clear h k
  have hm63 : maxLen = 9223372036854775807 := rfl
  have hxx : ((l.length : Int) != (l.length : Int)) = false := bne_self_eq_false _
  go_enter Tryz.func34, Tryz.ntmps34
  go_wp2_with fail
  go_loopw [5] (fun i wq => ∃ k : Nat, k ≤ l.length ∧ i = .int .i64 k ∧ Below w.heap.size w wq) (fun i _ => l.length - (intOf i).toNat)
  case atStart => exact ⟨0, by omega, rfl, Below.refl _ _⟩
  case round =>
    obtain ⟨k, hk, rfl, hb⟩ := hrel
    have HB := Lib.hid hb
    clear hb
    by_cases hlt : k < l.length
    · have hltI : (k : Int) < (l.length : Int) := by omega
      obtain ⟨b, off, cap', he, _, _⟩ := HR.out.shape (by omega)
      cases he
      obtain ⟨b2, off2, cap2', he2, _, _⟩ := HR2.out.shape (by omega)
      cases he2
      have HE : Hid (∀ wS, Below w.heap.size w wS → wS.cell? ⟨b, off + k, none⟩ = some (.int .i64 l[k]) ∧ wS.cell? ⟨b2, off2 + k, none⟩ = some (.int .i64 l[k])) := Lib.hid (fun wS hS => ⟨(HR.out.below hS).cell hlt, (HR2.out.below hS).cell hlt⟩)
      generalize l[k] = x at *
      have hx2 : (x != x) = false := bne_self_eq_false x
      go_wp2_with fail
      refine wp_region_flow2_lit [(0, false), (1, false), (2, false), (3, false), (4, false), (5, false), (6, false), (7, false), (8, false)] (fun wS => Below w.heap.size w wS) (by kernel_rfl) (by kernel_rfl) (by kernel_rfl) HB.out.drew ?_
      repeat (first | (refine' flow2_pass (o := _) rfl _ _; (focus rfl); simp only [Act.put, List.setIfInBounds_toArray, List.set_cons_zero, List.set_cons_succ]) | (refine' flow2_take (v := _) (o := _) rfl _ _ _; rotate_left; (focus rfl); (focus (intro wS hS; have hE := Ext.refl wS; (obtain ⟨e1, e2⟩ := HE.out wS hS); go_simp; try (with_reducible (first | exact ⟨rfl, hS, hE⟩ | rfl)); done)); simp only [Act.put, List.setIfInBounds_toArray, List.set_cons_zero, List.set_cons_succ]))
      refine flow2_nil ?_
      intro wT hE hS
      have HT := Lib.hid hS
      clear hE hS
      go_wp2_with fail
      go_roundw
      case rel => exact ⟨k + 1, by omega, by go_num, HT.out⟩
      case measure => simp [intOf]; omega
    · have hltI : ¬ (k : Int) < (l.length : Int) := by omega
      go_wp2_with fail
      go_ret
      exact ⟨rfl, HB.out⟩
set_option maxHeartbeats 16000000 in
theorem rlost_any {c d : Ca} {cv dv : Cv} {w : World} (h : CaAt w cv c) (k : CaAt w dv d) (hf : Few c 100) (hfd : Few d 100) (hok : SlOk c.bs) :
    Calls Tryz.prog 36 #[.agg (arr cv), .agg (arr dv)] w fun r w' => ∃ v', r = .returned v' ∧ Is w' 0 v' (srtI (lostL c.bs d.bs)) ∧ Below w.heap.size w w' := by
  obtain ⟨W, hW⟩ : ∃ W, W = (w.alloc (.cells (arr cv) 30)).alloc (.cells (arr dv) 30) := ⟨_, rfl⟩
  have hb0 : Below w.heap.size w W := by rw [hW]; go_grown
  have HX : Hid (W.heap[w.heap.size]? = some (.cells (arr cv) 30)) := Lib.hid (by rw [hW]; exact heap_old_at (heap_alloc_new _ _))
  have HY : Hid (W.heap[w.heap.size + 1]? = some (.cells (arr dv) 30)) := Lib.hid (by rw [hW]; exact heap_new_at _ _ (alloc_size _ _))
  have HB := Lib.hid hb0
  have HW := Lib.hid hW
  have hrb := h.bs.below hb0
  have hrd := k.bs.below hb0
  obtain ⟨A, cap, hv, hlc, hcap⟩ := hrb.any
  rw [hv] at hrb
  obtain ⟨A2, cap2, hv2, hlc2, hcap2⟩ := hrd.any
  rw [hv2] at hrd
  have HR := Lib.hid hrb
  have HD := Lib.hid hrd
  have hlen : c.bs.length ≤ 100 := hf.bs
  have hlen2 : d.bs.length ≤ 100 := hfd.bs
  have HCC : Hid (∀ wS, Below W.heap.size W wS → wS.cell? ⟨w.heap.size, 3, none⟩ = some (.slice A c.bs.length cap) ∧ wS.cell? ⟨w.heap.size + 1, 3, none⟩ = some (.slice A2 d.bs.length cap2)) := Lib.hid (fun wS hS => by
    have h1 := (cv_cells ((hS.block _ (heap_lt HX.out)).trans HX.out)).2.2.2
    have h2 := (cv_cells ((hS.block _ (heap_lt HY.out)).trans HY.out)).2.2.2
    rw [hv] at h1
    rw [hv2] at h2
    exact ⟨h1, h2⟩)
  have HEND := Lib.hid (fun s hs he => refL_end (m := d.bs) hok (s := s) hs he)
  clear h k hb0 hW hrb hrd hv hv2 hf hfd hok
  generalize c.bs = l at *
  generalize d.bs = m at *
  have hm63 : maxLen = 9223372036854775807 := rfl
  go_enter Tryz.func36, Tryz.ntmps36
  go_wp2_with fail
  rw [← HW.out]
  go_loopw [5, 6] (fun vo i wq => ∃ s : Nat, s ≤ 65536 ∧ i = .int .i64 s ∧ Oi W wq vo (refL l m s)) (fun _ i _ => 65536 - (intOf i).toNat)
  case atStart => exact ⟨0, by omega, rfl, .start W⟩
  case round =>
    obtain ⟨s, hs, rfl, ho⟩ := hrel
    have HO := Lib.hid ho
    obtain ⟨c3, d3⟩ := HCC.out wr ho.bl
    obtain ⟨Ao, ko, hvo, _, _⟩ := ho.rs.any
    subst hvo
    clear ho
    by_cases hlt : s < 65536
    · have hltI : (s : Int) ≤ 65535 := by omega
      by_cases hll : (refL l m s).length < l.length
      · have hllI : ((refL l m s).length : Int) < (l.length : Int) := by omega
        obtain ⟨b, off, cap', he, _, _⟩ := HR.out.shape (by omega)
        cases he
        have HSL : Hid (∀ j (hj : j < l.length), wr.cell? ⟨b, off + j * 3 + 2, none⟩ = some (.int .i64 l[j].sl)) := Lib.hid (fun j hj => (rangeAt_below (HR.out.range hj) (HR.out.lt b rfl) HO.out.bl) 2 _ rfl)
        have HSM : Hid (∀ j (hj : j < m.length), ∃ b2 off2, A2 = some ⟨b2, off2, none⟩ ∧ wr.cell? ⟨b2, off2 + j * 3 + 2, none⟩ = some (.int .i64 m[j].sl)) := Lib.hid (fun j hj => by
          obtain ⟨b2, off2, cap2', he2, _, _⟩ := HD.out.shape (by omega)
          injection he2 with e1 e2 e3
          subst e1
          exact ⟨b2, off2, rfl, (rangeAt_below (HD.out.range hj) (HD.out.lt b2 rfl) HO.out.bl) 2 _ rfl⟩)
        have HLE : Hid ((refL l m s).length < 1000000) := Lib.hid (by omega)
        have HNX : Hid (refL l m (s + 1) = refL l m s ++ (if pL l m s = true then [(s : Int)] else [])) := Lib.hid rfl
        have HP : Hid (pL l m s = (atS l s && !atS m s)) := Lib.hid rfl
        generalize refL l m s = out at *
        generalize pL l m s = pp at *
        go_wp2_with fail
        go_loop [7, 9] (fun va i => ∃ j : Nat, j ≤ l.length ∧ i = .int .i64 j ∧ va = .bool (atS (l.take j) s)) (fun _ i => l.length - (intOf i).toNat)
        case atStart => exact ⟨0, by omega, rfl, rfl⟩
        case round =>
          obtain ⟨j, hj, rfl, rfl⟩ := hrel
          by_cases hjl : j < l.length
          · have hjI : (j : Int) < (l.length : Int) := by omega
            have e1 := HSL.out j hjl
            have HN1 := Lib.hid (at_next (s := (s : Int)) hjl)
            generalize l[j] = x at e1 HN1
            generalize atS (l.take j) s = q at HN1 ⊢
            cases q with
            | true =>
              go_wp2_with fail
              go_round
              case rel => exact ⟨j + 1, by omega, by go_num, by rw [HN1.out]; rfl⟩
              case measure => simp [intOf]; omega
            | false =>
              by_cases hxs : x.sl = s
              · have hxb : (x.sl == (s : Int)) = true := by simpa using hxs
                go_wp2_with fail
                go_round
                case rel => exact ⟨j + 1, by omega, by go_num, by rw [HN1.out, hxb]; rfl⟩
                case measure => simp [intOf]; omega
              · have hxb : (x.sl == (s : Int)) = false := by simpa using hxs
                go_wp2_with fail
                go_round
                case rel => exact ⟨j + 1, by omega, by go_num, by rw [HN1.out, hxb]; rfl⟩
                case measure => simp [intOf]; omega
          · have hjI : ¬ (j : Int) < (l.length : Int) := by omega
            obtain rfl : j = l.length := by omega
            rw [List.take_length]
            generalize atS l s = qa at HP ⊢
            cases qa with
            | false =>
              have hpp := HP.out
              rw [Bool.false_and] at hpp
              subst hpp
              have HN2 := Lib.hid HNX.out
              clear HP
              go_wp2_with fail
              go_loop [8, 10] (fun vb i => i = .int .i64 0 ∧ vb = .bool false) (fun _ _ => 0)
              case atStart => exact ⟨rfl, rfl⟩
              case round =>
                obtain ⟨rfl, rfl⟩ := hrel
                cases hm0 : decide ((0 : Int) < (m.length : Int)) with
                | false =>
                  have hmI := of_decide_eq_false hm0
                  go_wp2_with fail
                  go_roundw
                  case rel => exact ⟨s + 1, by omega, by go_num, by rw [HN2.out]; simpa using HO.out⟩
                  case measure => simp [intOf]; omega
                | true =>
                  have hmI := of_decide_eq_true hm0
                  go_wp2_with fail
                  go_roundw
                  case rel => exact ⟨s + 1, by omega, by go_num, by rw [HN2.out]; simpa using HO.out⟩
                  case measure => simp [intOf]; omega
            | true =>
              go_wp2_with fail
              go_loop [8, 10] (fun vb i => ∃ j : Nat, j ≤ m.length ∧ i = .int .i64 j ∧ vb = .bool (atS (m.take j) s)) (fun _ i => m.length - (intOf i).toNat)
              case atStart => exact ⟨0, by omega, rfl, rfl⟩
              case round =>
                obtain ⟨j, hj, rfl, rfl⟩ := hrel
                by_cases hjm : j < m.length
                · have hjI : (j : Int) < (m.length : Int) := by omega
                  obtain ⟨b2, off2, rfl, e1⟩ := HSM.out j hjm
                  have HN1 := Lib.hid (at_next (s := (s : Int)) hjm)
                  generalize m[j] = x at e1 HN1
                  generalize atS (m.take j) s = q at HN1 ⊢
                  cases q with
                  | true =>
                    go_wp2_with fail
                    go_round
                    case rel => exact ⟨j + 1, by omega, by go_num, by rw [HN1.out]; rfl⟩
                    case measure => simp [intOf]; omega
                  | false =>
                    by_cases hxs : x.sl = s
                    · have hxb : (x.sl == (s : Int)) = true := by simpa using hxs
                      go_wp2_with fail
                      go_round
                      case rel => exact ⟨j + 1, by omega, by go_num, by rw [HN1.out, hxb]; rfl⟩
                      case measure => simp [intOf]; omega
                    · have hxb : (x.sl == (s : Int)) = false := by simpa using hxs
                      go_wp2_with fail
                      go_round
                      case rel => exact ⟨j + 1, by omega, by go_num, by rw [HN1.out, hxb]; rfl⟩
                      case measure => simp [intOf]; omega
                · have hjI : ¬ (j : Int) < (m.length : Int) := by omega
                  obtain rfl : j = m.length := by omega
                  rw [List.take_length]
                  have hpp := HP.out
                  rw [Bool.true_and] at hpp
                  subst hpp
                  clear HP
                  generalize atS m s = qb at HNX ⊢
                  cases qb with
                  | true =>
                    have HN2 := Lib.hid HNX.out
                    go_wp2_with fail
                    go_roundw
                    case rel => exact ⟨s + 1, by omega, by go_num, by rw [HN2.out]; simpa using HO.out⟩
                    case measure => simp [intOf]; omega
                  | false =>
                    have HN2 := Lib.hid HNX.out
                    go_wp2_with (at_builtin; refine iw_append rfl (.tmp 67) (.tmp 69) rfl HO.out HLE.out (s : Int) rfl rfl ?_; intro v' w4 ho4; have HO4 := Lib.hid ho4; clear ho4)
                    go_roundw
                    case rel => exact ⟨s + 1, by omega, by go_num, by rw [HN2.out]; simpa using HO4.out⟩
                    case measure => simp [intOf]; omega
      · have hllI : ¬ ((refL l m s).length : Int) < (l.length : Int) := by omega
        have HE2 := Lib.hid (HEND.out s hs (.inr (by omega)))
        go_wp2_with fail
        go_ret
        refine ⟨_, rfl, ?_, HB.out.trans (HO.out.bl.mono HB.out.size)⟩
        rw [← HE2.out]
        exact HO.out.rs.mono (Nat.zero_le _)
    · have hltI : ¬ (s : Int) ≤ 65535 := by omega
      have HE2 := Lib.hid (HEND.out s hs (.inl (by omega)))
      go_wp2_with fail
      go_ret
      refine ⟨_, rfl, ?_, HB.out.trans (HO.out.bl.mono HB.out.size)⟩
      rw [← HE2.out]
      exact HO.out.rs.mono (Nat.zero_le _)
end Go.Proofs.YtokhnbdhcehonaaGreat
/- index: the walk of IndexLost. -/
namespace Go.Proofs.YtokhnbdhcehonaaGreat
open Go Go.RowKit Row
set_option maxRecDepth 100000
theorem Va.slok {c : Ca} (h : Va c) : SlOk c.bs := by
  refine ⟨List.pairwise_iff_getElem.2 fun i j hi hj hij e => ?_, fun x hx => ?_⟩
  · rw [List.length_map] at hi hj
    simp only [List.getElem_map] at e
    have := h.ri.bs.inj lB_lin hi hj (h.sl _ (List.getElem_mem hi) _ (List.getElem_mem hj) e)
    omega
  · have h1 := (h.ob x hx).1
    simp [blC, chkR, restR, hasS, hasB, codes, numB, txtB, txtP, numP] at h1
    exact ⟨of_decide_eq_true h1.2.2.1, of_decide_eq_true h1.2.2.2⟩
def LoV (w : World) (r : Ending) (w' : World) : Prop := r = .returned (.bool true) ∧ Below w.heap.size w w'
set_option maxHeartbeats 32000000 in
theorem lost_walk {m l : List Ch} {u v : Value} {w : World} (hm : Ro w u m) (h : Ro w v l) (hokm : ∀ x ∈ m, x.ok) (hok : ∀ x ∈ l, x.ok) : Calls Tryz.prog 8 #[u, v] w (LoV w) := by
  have HM := Lib.hid hm
  have HL := Lib.hid h
  have HVM := Lib.hid (made_va hokm)
  have HVL := Lib.hid (made_va hok)
  have HLM := Lib.hid (large_any hm)
  have HLL := Lib.hid (large_any h)
  obtain ⟨Am, capm, hvm, hlcm, hcapm⟩ := hm.any
  subst hvm
  obtain ⟨A, cap, hv, hlc, hcap⟩ := h.any
  subst hv
  clear h hm hok hokm
  have hm63 : maxLen = 9223372036854775807 := rfl
  go_enter Tryz.func8, Tryz.ntmps8
  go_wp2_with fail
  refine HLM.out.mono ?_
  rintro r w1 ⟨b, rfl, hb40, hww⟩
  obtain rfl := hww
  have H40 := Lib.hid hb40
  clear hb40 HLM
  cases b with
  | true =>
    go_wp2_with fail
    refine (kn_any _).mono ?_
    rintro r w2 ⟨rfl, hb2⟩
    go_wp2_with fail
    go_ret
    exact ⟨rfl, hb2⟩
  | false =>
  have HM40 : Hid (m.length ≤ 40) := Lib.hid (H40.out rfl)
  go_wp2_with fail
  refine HLL.out.mono ?_
  rintro r w2 ⟨b, rfl, hb41, hww⟩
  obtain rfl := hww
  have H41 := Lib.hid hb41
  clear hb41 HLL
  cases b with
  | true =>
    go_wp2_with fail
    refine (kn_any _).mono ?_
    rintro r w3 ⟨rfl, hb2⟩
    go_wp2_with fail
    go_ret
    exact ⟨rfl, hb2⟩
  | false =>
  have hl40 : l.length ≤ 40 := H41.out rfl
  have HMD := Lib.hid (made_any HM.out (Nat.le_trans HM40.out (by decide)))
  have HLD := Lib.hid (fun W (hW : Below w2.heap.size w2 W) => made_any (HL.out.below hW) (Nat.le_trans hl40 (by decide)))
  have hmo := madeC_ok m m.length (Nat.le_refl _)
  rw [List.take_length] at hmo
  have hmo2 := madeC_ok l l.length (Nat.le_refl _)
  rw [List.take_length] at hmo2
  have HFC := Lib.hid (hmo.2.up (Nat.le_trans HM40.out (show 40 ≤ 100 by decide)))
  have HFD := Lib.hid (hmo2.2.up (Nat.le_trans hl40 (show 40 ≤ 100 by decide)))
  clear hmo hmo2
  generalize madeC m = c at HMD HFC HVM
  generalize madeC l = d at HLD HFD HVL
  have HSC := Lib.hid HVM.out.slok
  go_wp2_with fail
  refine HMD.out.mono ?_
  rintro r w3 ⟨cv, rfl, hca, hb3⟩
  have HC3 := Lib.hid hca
  have HB3 := Lib.hid hb3
  clear hca hb3 HMD
  go_wp2_with fail
  refine (HLD.out _ HB3.out).mono ?_
  rintro r w4 ⟨dv, rfl, hda, hb4⟩
  have HC4 := Lib.hid (HC3.out.below hb4)
  have HD4 := Lib.hid hda
  have HB4 := Lib.hid (HB3.out.trans (hb4.mono HB3.out.size))
  clear hda hb4 HLD HC3 HB3
  obtain ⟨W4, hW4⟩ : ∃ W4, W4 = (w4.alloc (.cells (arr (RowT.z : Cv)) (RowT.T Cv))).alloc (.cells (arr (RowT.z : Cv)) (RowT.T Cv)) := ⟨_, rfl⟩
  have HBW : Hid (Below w4.heap.size w4 W4) := Lib.hid (by rw [hW4]; go_grown)
  have HX5 : Hid (W4.heap[w4.heap.size]? = some (.cells (arr (RowT.z : Cv)) (RowT.T Cv))) := Lib.hid (by rw [hW4]; exact heap_old_at (heap_alloc_new _ _))
  have HX6 : Hid (W4.heap[w4.heap.size + 1]? = some (.cells (arr (RowT.z : Cv)) (RowT.T Cv))) := Lib.hid (by rw [hW4]; exact heap_new_at _ _ (alloc_size _ _))
  rw [hW4] at HX5 HX6 HBW
  clear hW4 W4
  go_wp2_with (first
    | (refine rw_alloc (α := Cv) rfl rfl ?_)
    | (refine rw_store (α := Cv) rfl (.tmp 5) (.tmp 15) rfl w4.heap.size cv _ (arr_size _) rfl rfl HX5.out ?_; intro w5 hb5 hg5 hs5; have HY5 := Lib.hid hb5; have HG5 := Lib.hid (And.intro (HBW.out.grown hg5 HBW.out.size (fun j hj => by cases hj; exact Nat.le_refl _)) ((hg5.block _ (heap_lt HX6.out) (by simp)).trans HX6.out)); clear hb5 hg5 hs5)
    | (refine rw_store (α := Cv) rfl (.tmp 6) (.tmp 17) ?_ (w4.heap.size + 1) dv (arr (RowT.z : Cv)) (arr_size _) ?_ ?_ HG5.out.2 ?_))
  · rfl
  intro w6 hb6 hg6 hs6
  have HY6 := Lib.hid hb6
  have HG6 := Lib.hid (And.intro (HG5.out.1.grown hg6 HG5.out.1.size (fun j hj => by cases hj; exact Nat.le_succ _)) ((hg6.block _ (heap_lt HY5.out) (by simp)).trans HY5.out))
  clear hb6 hg6 hs6
  go_wp2_with fail
  have HC6 := Lib.hid (HC4.out.below HG6.out.1)
  have HD6 := Lib.hid (HD4.out.below HG6.out.1)
  have HB6 := Lib.hid (HB4.out.trans (HG6.out.1.mono HB4.out.size))
  refine wp_region_flow2_lit [(0, false), (1, false), (3, false), (4, false), (2, true), (5, true), (6, true), (7, false), (8, true), (9, false), (10, false)] (fun wS => Below w6.heap.size w6 wS) (by kernel_rfl) (by kernel_rfl) (by kernel_rfl) (Below.refl _ _).drew ?_
  (refine flow2_take (v := .agg (arr cv)) (o := _) rfl rfl (fun wS hS => gives_row rfl rfl (range_row ((hS.block _ (heap_lt HG6.out.2)).trans HG6.out.2)) ⟨hS, Ext.refl wS⟩) ?_; simp only [Act.put, List.setIfInBounds_toArray, List.set_cons_zero, List.set_cons_succ])
  (refine flow2_take (v := .agg (arr dv)) (o := _) rfl rfl (fun wS hS => gives_row rfl rfl (range_row ((hS.block _ (heap_lt HY6.out)).trans HY6.out)) ⟨hS, Ext.refl wS⟩) ?_; simp only [Act.put, List.setIfInBounds_toArray, List.set_cons_zero, List.set_cons_succ])
  (refine flow2_take (v := .agg (arr cv)) (o := _) rfl rfl (fun wS hS => gives_row rfl rfl (range_row ((hS.block _ (heap_lt HG6.out.2)).trans HG6.out.2)) ⟨hS, Ext.refl wS⟩) ?_; simp only [Act.put, List.setIfInBounds_toArray, List.set_cons_zero, List.set_cons_succ])
  (refine flow2_take (v := .agg (arr dv)) (o := _) rfl rfl (fun wS hS => gives_row rfl rfl (range_row ((hS.block _ (heap_lt HY6.out)).trans HY6.out)) ⟨hS, Ext.refl wS⟩) ?_; simp only [Act.put, List.setIfInBounds_toArray, List.set_cons_zero, List.set_cons_succ])
  refine flow2_turn (o := _) rfl rfl ?_
  intro wT hE hS K hK
  go_simp
  refine (ilost_any (HC6.out.below hS) (HD6.out.below hS) HFC.out (lost_nodup HSC.out)).mono ?_
  rintro e w7 ⟨v1, rfl, hr1, hb7⟩
  have HR1 := Lib.hid hr1
  have hS1 := hS.trans (hb7.mono hS.size)
  refine hK _ _ hS1 ?_
  clear hE hS hK K hb7 hr1 hS1
  simp only [Act.put, List.setIfInBounds_toArray, List.set_cons_zero, List.set_cons_succ]
  refine flow2_turn (o := _) rfl rfl ?_
  intro wU hE hS K hK
  go_simp
  refine (rlost_any (HC6.out.below hS) (HD6.out.below hS) HFC.out HFD.out HSC.out).mono ?_
  rintro e w8 ⟨v2, rfl, hr2, hb8⟩
  have HR2 := Lib.hid hr2
  have HR12 := Lib.hid ((HR1.out.below hE).below hb8)
  have hS1 := hS.trans (hb8.mono hS.size)
  refine hK _ _ hS1 ?_
  clear hE hS hK K hb8 hr2 hS1
  simp only [Act.put, List.setIfInBounds_toArray, List.set_cons_zero, List.set_cons_succ]
  generalize srtI (lostL c.bs d.bs) = L at HR2 HR12
  clear HR1
  refine flow2_turn (o := _) rfl rfl ?_
  intro wU hE hS K hK
  go_simp
  refine (ints_any (HR12.out.below hE) (HR2.out.below hE)).mono ?_
  rintro e w9 ⟨rfl, hb9⟩
  have hS1 := hS.trans (hb9.mono hS.size)
  refine hK _ _ hS1 ?_
  clear hE hS hK K hb9 hS1
  simp only [Act.put, List.setIfInBounds_toArray, List.set_cons_zero, List.set_cons_succ]
  repeat (first | (refine' flow2_pass (o := _) rfl _ _; (focus rfl); simp only [Act.put, List.setIfInBounds_toArray, List.set_cons_zero, List.set_cons_succ]) | (refine' flow2_take (v := _) (o := _) rfl _ _ _; rotate_left; (focus rfl); (focus (intro wS hS; have hE := Ext.refl wS; (skip); go_simp; try (with_reducible (first | exact ⟨rfl, hS, hE⟩ | rfl)); done)); simp only [Act.put, List.setIfInBounds_toArray, List.set_cons_zero, List.set_cons_succ]))
  refine flow2_turn (o := _) rfl rfl ?_
  intro wV hE hS K hK
  go_simp
  refine (kn_any wV).mono ?_
  rintro e w10 ⟨rfl, hb10⟩
  have hS1 := hS.trans (hb10.mono hS.size)
  refine hK _ _ hS1 ?_
  clear hE hS hK K hb10 hS1
  simp only [Act.put, List.setIfInBounds_toArray, List.set_cons_zero, List.set_cons_succ]
  repeat (first | (refine' flow2_pass (o := _) rfl _ _; (focus rfl); simp only [Act.put, List.setIfInBounds_toArray, List.set_cons_zero, List.set_cons_succ]) | (refine' flow2_take (v := _) (o := _) rfl _ _ _; rotate_left; (focus rfl); (focus (intro wS hS; have hE := Ext.refl wS; (skip); go_simp; try (with_reducible (first | exact ⟨rfl, hS, hE⟩ | rfl)); done)); simp only [Act.put, List.setIfInBounds_toArray, List.set_cons_zero, List.set_cons_succ]))
  refine flow2_nil ?_
  intro wT2 hE hS
  have HT := Lib.hid (HB6.out.trans (hS.mono HB6.out.size))
  clear hE hS
  go_wp2_with fail
  go_ret
  exact ⟨rfl, HT.out⟩
theorem lost_all (A : Option Addr) (M : List Ch) (cap : Nat) (hc : M.length ≤ cap) (hm : cap ≤ maxLen) (hM : ∀ x ∈ M, x.ok) (B : Option Addr) (L : List Ch) (kap : Nat) (hc2 : L.length ≤ kap) (hm2 : kap ≤ maxLen) (hL : ∀ x ∈ L, x.ok) (w : World) (hs : RowsAt w A 18 (M.map cells)) (hs2 : RowsAt w B 18 (L.map cells)) :
    Calls Tryz.prog 8 #[.slice A M.length cap, .slice B L.length kap] w fun e w' => e = .returned (.bool true) ∧ Below w.heap.size w w' := lost_walk (ro_of hc hm hs) (ro_of hc2 hm2 hs2) hM hL
end Go.Proofs.YtokhnbdhcehonaaGreat
