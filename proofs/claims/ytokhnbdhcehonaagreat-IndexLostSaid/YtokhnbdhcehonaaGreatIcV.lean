/- index: the program's Changes of a cache. -/
import Derived.Test.YtokhnbdhcehonaaGreatChg
import Derived.Test.YtokhnbdhcehonaaGreatChkEq
set_option linter.unusedSimpArgs false
set_option linter.unusedVariables false
namespace Go.Proofs.YtokhnbdhcehonaaGreat
open Go Go.RowKit Row
set_option maxRecDepth 100000
set_option maxHeartbeats 32000000 in
theorem ichanges_any {c : Ca} {cv : Cv} {w : World} (h : CaAt w cv c) (hf : Few c 100) :
    Calls Tryz.prog 25 #[.agg (arr cv)] w fun r w' => ∃ v', r = .returned v' ∧ Rs w' 0 v' (chgC c) ∧ Below w.heap.size w w' := by
  obtain ⟨Wb, hW⟩ : ∃ Wb, Wb = w.alloc (.cells (arr cv) 30) := ⟨_, rfl⟩
  have hb0 : Below w.heap.size w Wb := by rw [hW]; exact bel_box
  have HX : Hid (Wb.heap[w.heap.size]? = some (.cells (arr cv) 30)) := Lib.hid (by rw [hW]; exact heap_alloc_new _ _)
  have HCA := Lib.hid (h.below hb0)
  have HB := Lib.hid hb0
  have HW := Lib.hid hW
  have HFW := Lib.hid hf
  have HRH := HCA.out.hs
  have HRF := HCA.out.fs
  have HRN := HCA.out.ns
  have HRB := HCA.out.bs
  obtain ⟨A1, p1, hv1, q1, _⟩ := HRH.any
  obtain ⟨A2, p2, hv2, q2, _⟩ := HRF.any
  obtain ⟨A3, p3, hv3, q3, _⟩ := HRN.any
  obtain ⟨A4, p4, hv4, q4, _⟩ := HRB.any
  rw [hv1] at HRH
  rw [hv2] at HRF
  rw [hv3] at HRN
  rw [hv4] at HRB
  have HRH := Lib.hid HRH
  have HRF := Lib.hid HRF
  have HRN := Lib.hid HRN
  have HRB := Lib.hid HRB
  have HCC : Hid (∀ wS, Below Wb.heap.size Wb wS → wS.cell? ⟨w.heap.size, 0, none⟩ = some (.slice A1 c.hs.length p1) ∧ wS.cell? ⟨w.heap.size, 1, none⟩ = some (.slice A2 c.fs.length p2) ∧ wS.cell? ⟨w.heap.size, 2, none⟩ = some (.slice A3 c.ns.length p3) ∧ wS.cell? ⟨w.heap.size, 3, none⟩ = some (.slice A4 c.bs.length p4)) := Lib.hid (fun wS hS => by
    have := cv_cells ((hS.block _ (heap_lt HX.out)).trans HX.out)
    rwa [hv1, hv2, hv3, hv4] at this)
  have L1 := hf.hs
  have L2 := hf.fs
  have L3 := hf.ns
  have L4 := hf.bs
  clear h hb0 hW hf hv1 hv2 hv3 hv4
  have HCG : Hid (chgC c = c.hs.map hdC ++ c.fs.map flC ++ c.ns.map nmC ++ c.bs.map blC) := Lib.hid rfl
  generalize c.hs = lh at *
  generalize c.fs = lf at *
  generalize c.ns = ln at *
  generalize c.bs = lb at *
  have hm63 : maxLen = 9223372036854775807 := rfl
  obtain ⟨c0, c1, c2, c3⟩ := HCC.out Wb (Below.refl _ _)
  rw [HW.out] at c0 c1 c2 c3
  go_enter Tryz.func25, Tryz.ntmps25
  go_wp2_with fail
  rw [← HW.out]
  go_loopw [3, 15] (fun vo i wq => ∃ k : Nat, k ≤ lh.length ∧ i = .int .i64 k ∧ Ou Wb wq vo ((lh.take k).map hdC)) (fun _ i _ => lh.length - (intOf i).toNat)
  case atStart => exact ⟨0, by omega, rfl, .start Wb⟩
  case round =>
    obtain ⟨k, hk, rfl, hou⟩ := hrel
    have HO := Lib.hid hou
    clear hou
    by_cases hlt : k < lh.length
    · have hltI : (k : Int) < (lh.length : Int) := by omega
      obtain ⟨b, off, cap', he, _, _⟩ := HRH.out.shape (by omega)
      cases he
      have HE := Lib.hid (rangeAt_below (HRH.out.range hlt) (HRH.out.lt b rfl) HO.out.bl)
      have HN := Lib.hid (map_next hdC hlt)
      have HO2 := Lib.hid (HO.out.below (bel_box (o := .cells (arr lh[k]) (RowT.T Hd))))
      have d0 : (wr.alloc (.cells (arr lh[k]) (RowT.T Hd))).cell? ⟨wr.heap.size, 0, none⟩ = some (.int .i64 lh[k].e) := by rw [row_cell (heap_alloc_new wr _)]; rfl
      have d1 : (wr.alloc (.cells (arr lh[k]) (RowT.T Hd))).cell? ⟨wr.heap.size, 1, none⟩ = some (.int .i64 lh[k].s) := by rw [row_cell (heap_alloc_new wr _)]; rfl
      have d2 : (wr.alloc (.cells (arr lh[k]) (RowT.T Hd))).cell? ⟨wr.heap.size, 2, none⟩ = some (.string lh[k].up) := by rw [row_cell (heap_alloc_new wr _)]; rfl
      go_wp2_with (first
        | (refine rw_put (α := Hd) _ 5 (.tmp 18) rfl rfl rfl rfl rfl rfl lh[k] rfl rfl ?_)
        | (refine rw_load (α := Hd) rfl (.tmp 17) rfl b (off + k * 3) rfl lh[k] HE.out ?_)
        | (refine rw_app1 (α := Ch) HO2.out (by simp; omega) (by decide) _ 27 (.tmp 19) (.tmp 26) rfl rfl rfl rfl rfl (hdC lh[k]) rfl rfl rfl ?_; intro v1 w1 h1; have H1 := Lib.hid h1; clear h1))
      go_roundw
      case rel => exact ⟨k + 1, by omega, by go_num, by rw [HN.out]; exact H1.out⟩
      case measure => simp [intOf]; omega
    · have hltI : ¬ (k : Int) < (lh.length : Int) := by omega
      obtain rfl : k = lh.length := by omega
      have ho := HO.out
      rw [List.take_length] at ho
      have HO1 := Lib.hid ho
      clear ho HO
      obtain ⟨c0, c1, c2, c3⟩ := HCC.out wr HO1.out.bl
      go_wp2_with fail
      obtain ⟨w10, hw10⟩ : ∃ z, z = wr := ⟨_, rfl⟩
      subst hw10
      clear c0 c1 c2 c3
      go_loopw [3, 33] (fun vo i wq => ∃ k : Nat, k ≤ lf.length ∧ i = .int .i64 k ∧ Ou Wb wq vo ((lh.map hdC) ++ (lf.take k).map flC)) (fun _ i _ => lf.length - (intOf i).toNat)
      case atStart => exact ⟨0, by omega, rfl, (by simpa using HO1.out)⟩
      case round =>
        obtain ⟨k, hk, rfl, hou⟩ := hrel
        have HO := Lib.hid hou
        clear hou
        by_cases hlt : k < lf.length
        · have hltI : (k : Int) < (lf.length : Int) := by omega
          obtain ⟨b, off, cap', he, _, _⟩ := HRF.out.shape (by omega)
          cases he
          have HE := Lib.hid (rangeAt_below (HRF.out.range hlt) (HRF.out.lt b rfl) HO.out.bl)
          have HN := Lib.hid (map_next flC hlt)
          have HO2 := Lib.hid (HO.out.below (bel_box (o := .cells (arr lf[k]) (RowT.T Fl))))
          have d0 : (wr.alloc (.cells (arr lf[k]) (RowT.T Fl))).cell? ⟨wr.heap.size, 0, none⟩ = some (.string lf[k].up) := by rw [row_cell (heap_alloc_new wr _)]; rfl
          have hca : (cells lf[k].a).length = 10 := Row.len lf[k].a
          go_wp2_with (first
            | (refine rw_put (α := Fl) _ 7 (.tmp 36) rfl rfl rfl rfl rfl rfl lf[k] rfl rfl ?_)
            | (refine rw_load (α := Fl) rfl (.tmp 35) rfl b (off + k * 11) rfl lf[k] HE.out ?_)
            | (refine rw_load (α := At) rfl (.tmp 40) rfl wr.heap.size 1 rfl lf[k].a (by simpa using fl_range2 (range_row (heap_alloc_new wr (.cells (arr lf[k]) (RowT.T Fl))))) ?_)
            | (refine rw_app1 (α := Ch) HO2.out (by simp; omega) (by decide) _ 43 (.tmp 37) (.tmp 42) rfl rfl rfl rfl rfl (flC lf[k]) (congrArg Value.agg (build_ch _ _)) rfl rfl ?_; intro v1 w1 h1; have H1 := Lib.hid h1; clear h1))
          go_roundw
          case rel => exact ⟨k + 1, by omega, by go_num, by rw [HN.out, ← List.append_assoc]; exact H1.out⟩
          case measure => simp [intOf]; omega
        · have hltI : ¬ (k : Int) < (lf.length : Int) := by omega
          obtain rfl : k = lf.length := by omega
          have ho := HO.out
          rw [List.take_length] at ho
          have HO2 := Lib.hid ho
          clear ho HO
          obtain ⟨c0, c1, c2, c3⟩ := HCC.out wr HO2.out.bl
          go_wp2_with fail
          obtain ⟨w20, hw20⟩ : ∃ z, z = wr := ⟨_, rfl⟩
          subst hw20
          clear c0 c1 c2 c3
          go_loopw [3, 49] (fun vo i wq => ∃ k : Nat, k ≤ ln.length ∧ i = .int .i64 k ∧ Ou Wb wq vo ((lh.map hdC ++ lf.map flC) ++ (ln.take k).map nmC)) (fun _ i _ => ln.length - (intOf i).toNat)
          case atStart => exact ⟨0, by omega, rfl, (by simpa using HO2.out)⟩
          case round =>
            obtain ⟨k, hk, rfl, hou⟩ := hrel
            have HO := Lib.hid hou
            clear hou
            by_cases hlt : k < ln.length
            · have hltI : (k : Int) < (ln.length : Int) := by omega
              obtain ⟨b, off, cap', he, _, _⟩ := HRN.out.shape (by omega)
              cases he
              have HE := Lib.hid (rangeAt_below (HRN.out.range hlt) (HRN.out.lt b rfl) HO.out.bl)
              have HN := Lib.hid (map_next nmC hlt)
              have HO2 := Lib.hid (HO.out.below (bel_box (o := .cells (arr ln[k]) (RowT.T Nm))))
              have d0 : (wr.alloc (.cells (arr ln[k]) (RowT.T Nm))).cell? ⟨wr.heap.size, 0, none⟩ = some (.string ln[k].dir) := by rw [row_cell (heap_alloc_new wr _)]; rfl
              have d1 : (wr.alloc (.cells (arr ln[k]) (RowT.T Nm))).cell? ⟨wr.heap.size, 1, none⟩ = some (.string ln[k].name) := by rw [row_cell (heap_alloc_new wr _)]; rfl
              have d2 : (wr.alloc (.cells (arr ln[k]) (RowT.T Nm))).cell? ⟨wr.heap.size, 2, none⟩ = some (.string ln[k].up) := by rw [row_cell (heap_alloc_new wr _)]; rfl
              go_wp2_with (first
                | (refine rw_put (α := Nm) _ 9 (.tmp 52) rfl rfl rfl rfl rfl rfl ln[k] rfl rfl ?_)
                | (refine rw_load (α := Nm) rfl (.tmp 51) rfl b (off + k * 3) rfl ln[k] HE.out ?_)
                | (refine rw_app1 (α := Ch) HO2.out (by simp; omega) (by decide) _ 61 (.tmp 53) (.tmp 60) rfl rfl rfl rfl rfl (nmC ln[k]) rfl rfl rfl ?_; intro v1 w1 h1; have H1 := Lib.hid h1; clear h1))
              go_roundw
              case rel => exact ⟨k + 1, by omega, by go_num, by rw [HN.out, ← List.append_assoc]; exact H1.out⟩
              case measure => simp [intOf]; omega
            · have hltI : ¬ (k : Int) < (ln.length : Int) := by omega
              obtain rfl : k = ln.length := by omega
              have ho := HO.out
              rw [List.take_length] at ho
              have HO3 := Lib.hid ho
              clear ho HO
              obtain ⟨c0, c1, c2, c3⟩ := HCC.out wr HO3.out.bl
              go_wp2_with fail
              obtain ⟨w30, hw30⟩ : ∃ z, z = wr := ⟨_, rfl⟩
              subst hw30
              clear c0 c1 c2 c3
              go_loopw [3, 67] (fun vo i wq => ∃ k : Nat, k ≤ lb.length ∧ i = .int .i64 k ∧ Ou Wb wq vo ((lh.map hdC ++ lf.map flC ++ ln.map nmC) ++ (lb.take k).map blC)) (fun _ i _ => lb.length - (intOf i).toNat)
              case atStart => exact ⟨0, by omega, rfl, (by simpa using HO3.out)⟩
              case round =>
                obtain ⟨k, hk, rfl, hou⟩ := hrel
                have HO := Lib.hid hou
                clear hou
                by_cases hlt : k < lb.length
                · have hltI : (k : Int) < (lb.length : Int) := by omega
                  obtain ⟨b, off, cap', he, _, _⟩ := HRB.out.shape (by omega)
                  cases he
                  have HE := Lib.hid (rangeAt_below (HRB.out.range hlt) (HRB.out.lt b rfl) HO.out.bl)
                  have HN := Lib.hid (map_next blC hlt)
                  have HO2 := Lib.hid (HO.out.below (bel_box (o := .cells (arr lb[k]) (RowT.T Bl))))
                  have d0 : (wr.alloc (.cells (arr lb[k]) (RowT.T Bl))).cell? ⟨wr.heap.size, 0, none⟩ = some (.string lb[k].up) := by rw [row_cell (heap_alloc_new wr _)]; rfl
                  have d1 : (wr.alloc (.cells (arr lb[k]) (RowT.T Bl))).cell? ⟨wr.heap.size, 1, none⟩ = some (.int .i64 lb[k].no) := by rw [row_cell (heap_alloc_new wr _)]; rfl
                  have d2 : (wr.alloc (.cells (arr lb[k]) (RowT.T Bl))).cell? ⟨wr.heap.size, 2, none⟩ = some (.int .i64 lb[k].sl) := by rw [row_cell (heap_alloc_new wr _)]; rfl
                  go_wp2_with (first
                    | (refine rw_put (α := Bl) _ 11 (.tmp 70) rfl rfl rfl rfl rfl rfl lb[k] rfl rfl ?_)
                    | (refine rw_load (α := Bl) rfl (.tmp 69) rfl b (off + k * 3) rfl lb[k] HE.out ?_)
                    | (refine rw_app1 (α := Ch) HO2.out (by simp; omega) (by decide) _ 79 (.tmp 71) (.tmp 78) rfl rfl rfl rfl rfl (blC lb[k]) rfl rfl rfl ?_; intro v1 w1 h1; have H1 := Lib.hid h1; clear h1))
                  go_roundw
                  case rel => exact ⟨k + 1, by omega, by go_num, by rw [HN.out, ← List.append_assoc]; exact H1.out⟩
                  case measure => simp [intOf]; omega
                · have hltI : ¬ (k : Int) < (lb.length : Int) := by omega
                  obtain rfl : k = lb.length := by omega
                  have ho := HO.out
                  rw [List.take_length] at ho
                  have HO4 := Lib.hid ho
                  clear ho HO
                  obtain ⟨c0, c1, c2, c3⟩ := HCC.out wr HO4.out.bl
                  go_wp2_with fail
                  go_ret
                  refine ⟨_, rfl, ?_, HB.out.trans (HO4.out.bl.mono HB.out.size)⟩
                  rw [HCG.out]
                  exact HO4.out.rs.mono (Nat.zero_le _)
end Go.Proofs.YtokhnbdhcehonaaGreat
/- index: what holds of a cache that changes have made; the changes that make it make it of an empty one. -/
namespace Go.Proofs.YtokhnbdhcehonaaGreat
open Go Go.RowKit Row
set_option maxRecDepth 100000
set_option linter.unusedSectionVars false
theorem apR_eq2 (c : Ca) {x : Ch} (ho : x.ok) : apR c x = apC c x := by
  unfold apR apC
  rw [chk_eq ho]
  rfl
def good (y : Ch) : Prop := chkR y = true ∧ y.ok
structure Va (c : Ca) : Prop where
  ri : Rises c
  hu : ∀ x ∈ c.hs, ∀ y ∈ c.hs, x.up = y.up → kH x = kH y
  nd : ∀ y ∈ c.ns, ∃ f ∈ c.fs, f.up = y.dir
  bd : ∀ y ∈ c.bs, ∃ f ∈ c.fs, f.up = y.up
  sl : ∀ x ∈ c.bs, ∀ y ∈ c.bs, x.sl = y.sl → kB x = kB y
  oh : ∀ y ∈ c.hs, good (hdC y)
  of : ∀ y ∈ c.fs, good (flC y)
  on : ∀ y ∈ c.ns, good (nmC y)
  ob : ∀ y ∈ c.bs, good (blC y)
theorem Va.empty : Va ca0 := ⟨⟨.nil, .nil, .nil, .nil⟩, by simp [ca0], by simp [ca0], by simp [ca0], by simp [ca0], by simp [ca0], by simp [ca0], by simp [ca0], by simp [ca0]⟩
theorem only1 {x : Ch} (h : chkR x = true) (hk : x.k = 1) : hdC ⟨x.e, x.s, x.up⟩ = x := by
  obtain ⟨k, e, s, u, n, c, a, m, t⟩ := x
  simp only at hk
  subst hk
  simp [chkR, restR, hasS, hasB, codes, numB, txtB] at h
  simp [hdC, h]
theorem only3 {x : Ch} (h : chkR x = true) (hk : x.k = 3) : flC ⟨x.up, x.a⟩ = x := by
  obtain ⟨k, e, s, u, n, c, a, m, t⟩ := x
  simp only at hk
  subst hk
  simp [chkR, restR, hasS, hasB, codes, numB, txtB] at h
  simp [flC, h]
theorem only6 {x : Ch} (h : chkR x = true) (hk : x.k = 6) : nmC ⟨x.up, x.name, x.ch⟩ = x := by
  obtain ⟨k, e, s, u, n, c, a, m, t⟩ := x
  simp only at hk
  subst hk
  simp [chkR, restR, hasS, hasB, codes, numB, txtB] at h
  simp [nmC, h]
theorem only8 {x : Ch} (h : chkR x = true) (hk : x.k = 8) : blC ⟨x.up, x.no, x.sl⟩ = x := by
  obtain ⟨k, e, s, u, n, c, a, m, t⟩ := x
  simp only at hk
  subst hk
  simp [chkR, restR, hasS, hasB, codes, numB, txtB] at h
  simp [blC, h]
theorem find_yes {α κ : Type} [DecidableEq κ] {k : α → κ} {l : List α} {q : κ} (h : (find k l q).isSome = true) : ∃ f ∈ l, k f = q := by
  cases hh : find k l q with
  | none => rw [hh] at h; cases h
  | some y => exact ⟨y, find_some hh⟩
theorem find_no {α κ : Type} [DecidableEq κ] {k : α → κ} {l : List α} {q : κ} (h : ¬ (find k l q).isSome = true) : ∀ f ∈ l, k f ≠ q := by
  cases hh : find k l q with
  | none => exact find_none.1 hh
  | some y => rw [hh] at h; exact absurd rfl h
theorem mem_filter_of {α : Type} {p : α → Bool} {l : List α} {y : α} (h : y ∈ l.filter p) : y ∈ l := (List.mem_filter.1 h).1
theorem Va.bare {c : Ca} (h : Va c) (u : ByteArray) : Va (bareC c u) :=
  ⟨bareC_rises h.ri u, h.hu, fun y hy => h.nd y (mem_filter_of hy), fun y hy => h.bd y (mem_filter_of hy), fun x hx y hy => h.sl x (mem_filter_of hx) y (mem_filter_of hy), h.oh, h.of, fun y hy => h.on y (mem_filter_of hy), fun y hy => h.ob y (mem_filter_of hy)⟩
theorem Va.do {c : Ca} (h : Va c) {x : Ch} (hx : good x) : Va (dooC c x).1 := by
  have hri := dooC_rises h.ri x
  have hk := chkR_kind hx.1
  have hk9 : x.k = 1 ∨ x.k = 2 ∨ x.k = 3 ∨ x.k = 4 ∨ x.k = 5 ∨ x.k = 6 ∨ x.k = 7 ∨ x.k = 8 ∨ x.k = 9 := by omega
  rcases hk9 with hk | hk | hk | hk | hk | hk | hk | hk | hk
  · have hd : doC c x = (if (find kU c.hs x.up).isSome = true ∨ (find kH c.hs (x.e, x.s)).isSome = true then (c, false) else ({ c with hs := put kH lH c.hs ⟨x.e, x.s, x.up⟩ }, true)) := by
      unfold doC handlesC
      rw [if_pos (by omega), if_neg (by omega)]
    by_cases hc : (find kU c.hs x.up).isSome = true ∨ (find kH c.hs (x.e, x.s)).isSome = true
    · rw [if_pos hc] at hd
      rw [dooC_of c x _ _ hd, if_neg (by decide)]
      exact h
    · rw [if_neg hc] at hd
      rw [dooC_of c x _ _ hd, if_pos rfl] at hri ⊢
      have h1 := find_no (fun e => hc (.inl e))
      refine ⟨hri, fun a ha b hb e => ?_, h.nd, h.bd, h.sl, fun y hy => ?_, h.of, h.on, h.ob⟩
      · rcases (mem_put lH_lin).1 ha with rfl | ⟨ha, _⟩
        · rcases (mem_put lH_lin).1 hb with rfl | ⟨hb, _⟩
          · rfl
          · exact absurd e.symm (h1 b hb)
        · rcases (mem_put lH_lin).1 hb with rfl | ⟨hb, _⟩
          · exact absurd e (h1 a ha)
          · exact h.hu a ha b hb e
      · rcases (mem_put lH_lin).1 hy with rfl | ⟨hy, _⟩
        · rw [only1 hx.1 hk]; exact hx
        · exact h.oh y hy
  · have hd : doC c x = ({ c with hs := del kH c.hs (x.e, x.s) }, (find kH c.hs (x.e, x.s)).isSome) := by
      unfold doC handlesC
      rw [if_pos (by omega), if_pos hk]
    rw [dooC_of c x _ _ hd] at hri ⊢
    split
    · rw [if_pos (by assumption)] at hri
      exact ⟨hri, fun a ha b hb => h.hu a (mem_filter_of ha) b (mem_filter_of hb), h.nd, h.bd, h.sl, fun y hy => h.oh y (mem_filter_of hy), h.of, h.on, h.ob⟩
    · exact h
  · have hd : doC c x = ({ c with fs := put kF lF c.fs ⟨x.up, x.a⟩ }, true) := by
      unfold doC filesC
      rw [if_neg (by omega), if_pos (by omega), if_pos hk]
    rw [dooC_of c x _ _ hd, if_pos rfl] at hri ⊢
    have keep : ∀ q, (∃ f ∈ c.fs, f.up = q) → ∃ f ∈ put kF lF c.fs ⟨x.up, x.a⟩, f.up = q := fun q ⟨f, hf, e⟩ => by
      by_cases e2 : f.up = x.up
      · exact ⟨⟨x.up, x.a⟩, (mem_put lF_lin).2 (.inl rfl), by rw [← e, e2]⟩
      · exact ⟨f, (mem_put lF_lin).2 (.inr ⟨hf, e2⟩), e⟩
    refine ⟨hri, h.hu, fun y hy => keep _ (h.nd y hy), fun y hy => keep _ (h.bd y hy), h.sl, h.oh, fun y hy => ?_, h.on, h.ob⟩
    rcases (mem_put lF_lin).1 hy with rfl | ⟨hy, _⟩
    · rw [only3 hx.1 hk]; exact hx
    · exact h.of y hy
  · have hd : doC c x = (bareC { c with fs := del kF c.fs x.up } x.up, (find kF c.fs x.up).isSome) := by
      unfold doC filesC
      rw [if_neg (by omega), if_pos (by omega), if_neg (by omega), if_pos hk]
    rw [dooC_of c x _ _ hd] at hri ⊢
    split
    · rw [if_pos (by assumption)] at hri
      have keep : ∀ q, q ≠ x.up → (∃ f ∈ c.fs, f.up = q) → ∃ f ∈ del kF c.fs x.up, f.up = q := fun q hq ⟨f, hf, e⟩ => ⟨f, List.mem_filter.2 ⟨hf, by simp [e, hq]⟩, e⟩
      refine ⟨hri, h.hu, fun y hy => ?_, fun y hy => ?_, fun a ha b hb => h.sl a (mem_filter_of ha) b (mem_filter_of hb), h.oh, fun y hy => h.of y (mem_filter_of hy), fun y hy => h.on y (mem_filter_of hy), fun y hy => h.ob y (mem_filter_of hy)⟩
      · obtain ⟨h1, h2⟩ := List.mem_filter.1 hy
        exact keep _ (by simpa using h2) (h.nd y h1)
      · obtain ⟨h1, h2⟩ := List.mem_filter.1 hy
        exact keep _ (by simpa using h2) (h.bd y h1)
    · exact h
  · have hd : doC c x = (bareC c x.up, (find kF c.fs x.up).isSome) := by
      unfold doC filesC
      rw [if_neg (by omega), if_pos (by omega), if_neg (by omega), if_neg (by omega)]
    rw [dooC_of c x _ _ hd]
    split
    · exact h.bare _
    · exact h
  · have hd : doC c x = ({ c with ns := put kN lN c.ns ⟨x.up, x.name, x.ch⟩ }, (find kF c.fs x.up).isSome) := by
      unfold doC namesC
      rw [if_neg (by omega), if_neg (by omega), if_pos (by omega), if_pos hk]
    rw [dooC_of c x _ _ hd] at hri ⊢
    split
    · rename_i hf
      rw [if_pos hf] at hri
      refine ⟨hri, h.hu, fun y hy => ?_, h.bd, h.sl, h.oh, h.of, fun y hy => ?_, h.ob⟩
      · rcases (mem_put lN_lin).1 hy with rfl | ⟨hy, _⟩
        · exact find_yes hf
        · exact h.nd y hy
      · rcases (mem_put lN_lin).1 hy with rfl | ⟨hy, _⟩
        · rw [only6 hx.1 hk]; exact hx
        · exact h.on y hy
    · exact h
  · have hd : doC c x = ({ c with ns := del kN c.ns (x.up, x.name) }, (find kN c.ns (x.up, x.name)).isSome) := by
      unfold doC namesC
      rw [if_neg (by omega), if_neg (by omega), if_pos (by omega), if_neg (by omega)]
    rw [dooC_of c x _ _ hd] at hri ⊢
    split
    · rw [if_pos (by assumption)] at hri
      exact ⟨hri, h.hu, fun y hy => h.nd y (mem_filter_of hy), h.bd, h.sl, h.oh, h.of, fun y hy => h.on y (mem_filter_of hy), h.ob⟩
    · exact h
  · have hd : doC c x = ({ c with bs := put kB lB c.bs ⟨x.up, x.no, x.sl⟩ }, (find kF c.fs x.up).isSome && !takenC c x) := by
      unfold doC blocksC
      rw [if_neg (by omega), if_neg (by omega), if_neg (by omega), if_neg (by omega)]
    rw [dooC_of c x _ _ hd] at hri ⊢
    split
    · rename_i hf
      rw [if_pos hf] at hri
      simp only [Bool.and_eq_true, Bool.not_eq_true'] at hf
      have ht : ∀ y ∈ c.bs, y.sl = x.sl → kB y = (x.up, x.no) := fun y hy e => by
        have := List.any_eq_false.1 hf.2 y hy
        simpa [e] using this
      refine ⟨hri, h.hu, h.nd, fun y hy => ?_, fun a ha b hb e => ?_, h.oh, h.of, h.on, fun y hy => ?_⟩
      · rcases (mem_put lB_lin).1 hy with rfl | ⟨hy, _⟩
        · exact find_yes hf.1
        · exact h.bd y hy
      · rcases (mem_put lB_lin).1 ha with rfl | ⟨ha, hna⟩
        · rcases (mem_put lB_lin).1 hb with rfl | ⟨hb, hnb⟩
          · rfl
          · exact (ht b hb e.symm).symm
        · rcases (mem_put lB_lin).1 hb with rfl | ⟨hb, hnb⟩
          · exact ht a ha e
          · exact h.sl a ha b hb e
      · rcases (mem_put lB_lin).1 hy with rfl | ⟨hy, _⟩
        · rw [only8 hx.1 hk]; exact hx
        · exact h.ob y hy
    · exact h
  · have hd : doC c x = ({ c with bs := del kB c.bs (x.up, x.no) }, (find kB c.bs (x.up, x.no)).isSome) := by
      unfold doC blocksC
      rw [if_neg (by omega), if_neg (by omega), if_neg (by omega), if_pos hk]
    rw [dooC_of c x _ _ hd] at hri ⊢
    split
    · rw [if_pos (by assumption)] at hri
      exact ⟨hri, h.hu, h.nd, fun y hy => h.bd y (mem_filter_of hy), fun a ha b hb => h.sl a (mem_filter_of ha) b (mem_filter_of hb), h.oh, h.of, h.on, fun y hy => h.ob y (mem_filter_of hy)⟩
    · exact h
theorem Va.ap {c : Ca} (h : Va c) {x : Ch} (hx : x.ok) : Va (apR c x).1 := by
  unfold apR
  cases hc : chkR x with
  | true => rw [if_pos rfl]; exact h.do ⟨hc, hx⟩
  | false => rw [if_neg (by decide)]; exact h
theorem made_va {l : List Ch} (hl : ∀ x ∈ l, x.ok) : Va (madeC l) := by
  unfold madeC
  suffices ∀ (l : List Ch) (c : Ca), Va c → (∀ x ∈ l, x.ok) → Va (l.foldl (fun c x => (apR c x).1) c) from this l ca0 Va.empty hl
  intro l
  induction l with
  | nil => intro c hc _; exact hc
  | cons x l ih =>
    intro c hc hl
    exact ih _ (hc.ap (hl x (by simp))) (fun y hy => hl y (by simp [hy]))
/-- how much there is in all -/
def tot (c : Ca) : Nat := c.hs.length + c.fs.length + c.ns.length + c.bs.length
theorem tot_do (c : Ca) (x : Ch) : tot (doC c x).1 ≤ tot c + 1 := by
  unfold tot doC handlesC filesC namesC blocksC
  have p1 := put_len (k := kH) lH_lin c.hs ⟨x.e, x.s, x.up⟩
  have p2 := put_len (k := kF) lF_lin c.fs ⟨x.up, x.a⟩
  have p3 := put_len (k := kN) lN_lin c.ns ⟨x.up, x.name, x.ch⟩
  have p4 := put_len (k := kB) lB_lin c.bs ⟨x.up, x.no, x.sl⟩
  have d1 := del_len (k := kH) c.hs (x.e, x.s)
  have d2 := del_len (k := kF) c.fs x.up
  have d3 := del_len (k := kN) c.ns (x.up, x.name)
  have d4 := del_len (k := kB) c.bs (x.up, x.no)
  have f3 := List.length_filter_le (fun y : Nm => !decide (y.dir = x.up)) c.ns
  have f4 := List.length_filter_le (fun y : Bl => !decide (y.up = x.up)) c.bs
  repeat' split
  all_goals (simp only [bareC]; omega)
theorem tot_made (l : List Ch) : tot (madeC l) ≤ l.length := by
  unfold madeC
  suffices ∀ (l : List Ch) (c : Ca), tot (l.foldl (fun c x => (apR c x).1) c) ≤ tot c + l.length from by simpa [tot, ca0] using this l ca0
  intro l
  induction l with
  | nil => intro c; simp
  | cons x l ih =>
    intro c
    have h1 := ih (apR c x).1
    have h2 : tot (apR c x).1 ≤ tot c + 1 := by
      unfold apR dooC
      have := tot_do c x
      repeat' split
      all_goals (first | exact this | (simp only; omega))
    simp only [List.foldl_cons, List.length_cons]
    omega
theorem chg_len (c : Ca) : (chgC c).length = tot c := by simp [chgC, tot, Nat.add_assoc]
/-! the changes that make it -/
theorem goC_build {α : Type} (f : α → Ch) (mk : List α → Ca) (l : List α) (h : ∀ j (hj : j < l.length), apC (mk (l.take j)) (f l[j]) = (mk (l.take (j + 1)), true)) : goC (mk []) (l.map f) = some (mk l) := by
  have : ∀ j, j ≤ l.length → goC (mk []) ((l.take j).map f) = some (mk (l.take j)) := by
    intro j
    induction j with
    | zero => intro _; simp [goC]
    | succ j ih =>
      intro hj
      rw [map_next f (by omega), goC_app, ih (by omega)]
      simp only [Option.bind_some, goC]
      rw [h j (by omega)]
      simp
  have := this l.length (Nat.le_refl _)
  rwa [List.take_length] at this
theorem put_take {α κ : Type} [DecidableEq κ] {k : α → κ} {lt : κ → κ → Bool} (hl : Lin lt) {l : List α} (hs : Srt k lt l) {j : Nat} (hj : j < l.length) : put k lt (l.take j) l[j] = l.take (j + 1) := by
  rw [put_low hl, List.take_succ_eq_append_getElem hj]
  intro y hy
  obtain ⟨i, hi, rfl⟩ := List.mem_take_iff_getElem.1 hy
  exact List.pairwise_iff_getElem.1 hs i j (by omega) hj (by omega)
theorem take_ne {α κ : Type} [DecidableEq κ] {k : α → κ} {lt : κ → κ → Bool} (hl : Lin lt) {l : List α} (hs : Srt k lt l) {j : Nat} (hj : j < l.length) : ∀ y ∈ l.take j, k y ≠ k l[j] := by
  intro y hy
  obtain ⟨i, hi, rfl⟩ := List.mem_take_iff_getElem.1 hy
  exact hl.ne (List.pairwise_iff_getElem.1 hs i j (by omega) hj (by omega))
theorem ap_of {c d : Ca} {x : Ch} (hg : good x) (h : doC c x = (d, true)) : apC c x = (d, true) := by
  unfold apC
  rw [← chk_eq hg.2, hg.1, h]
  rfl
theorem not_some {α κ : Type} [DecidableEq κ] {k : α → κ} {l : List α} {q : κ} (h : ∀ y ∈ l, k y ≠ q) : (find k l q).isSome = false := by rw [find_none.2 h]; rfl
theorem is_some {α κ : Type} [DecidableEq κ] {k : α → κ} {l : List α} {q : κ} (h : ∃ f ∈ l, k f = q) : (find k l q).isSome = true := by
  cases hh : find k l q with
  | some y => rfl
  | none => obtain ⟨f, hf, e⟩ := h; exact absurd e (find_none.1 hh f hf)
theorem made_again {c : Ca} (h : Va c) : goC ca0 (chgC c) = some c := by
  have s1 : goC ca0 (c.hs.map hdC) = some ⟨c.hs, [], [], []⟩ := goC_build hdC (fun l => ⟨l, [], [], []⟩) c.hs (fun j hj => by
    refine ap_of (h.oh _ (List.getElem_mem hj)) ?_
    unfold doC handlesC
    rw [if_pos (.inl rfl), if_neg (by simp [hdC])]
    have n1 : (find kU (c.hs.take j) (hdC c.hs[j]).up).isSome = false := not_some (fun y hy e => take_ne lH_lin h.ri.hs hj y hy (h.hu y (List.mem_of_mem_take hy) _ (List.getElem_mem hj) e))
    have n2 : (find kH (c.hs.take j) ((hdC c.hs[j]).e, (hdC c.hs[j]).s)).isSome = false := not_some (take_ne lH_lin h.ri.hs hj)
    rw [if_neg (by rw [n1, n2]; simp)]
    exact congrArg (fun l => ((⟨l, [], [], []⟩ : Ca), true)) (put_take lH_lin h.ri.hs hj))
  have s2 : goC ⟨c.hs, [], [], []⟩ (c.fs.map flC) = some ⟨c.hs, c.fs, [], []⟩ := goC_build flC (fun l => ⟨c.hs, l, [], []⟩) c.fs (fun j hj => by
    refine ap_of (h.of _ (List.getElem_mem hj)) ?_
    unfold doC filesC
    rw [if_neg (by simp [flC]), if_pos (.inl rfl), if_pos (show (flC c.fs[j]).k = 3 from rfl)]
    exact congrArg (fun l => ((⟨c.hs, l, [], []⟩ : Ca), true)) (put_take lF_lin h.ri.fs hj))
  have s3 : goC ⟨c.hs, c.fs, [], []⟩ (c.ns.map nmC) = some ⟨c.hs, c.fs, c.ns, []⟩ := goC_build nmC (fun l => ⟨c.hs, c.fs, l, []⟩) c.ns (fun j hj => by
    refine ap_of (h.on _ (List.getElem_mem hj)) ?_
    unfold doC namesC
    rw [if_neg (by simp [nmC]), if_neg (by simp [nmC]), if_pos (.inl rfl), if_pos (show (nmC c.ns[j]).k = 6 from rfl)]
    have n1 : (find kF c.fs (nmC c.ns[j]).up).isSome = true := is_some (h.nd _ (List.getElem_mem hj))
    dsimp only
    rw [n1]
    exact congrArg (fun l => ((⟨c.hs, c.fs, l, []⟩ : Ca), true)) (put_take lN_lin h.ri.ns hj))
  have s4 : goC ⟨c.hs, c.fs, c.ns, []⟩ (c.bs.map blC) = some ⟨c.hs, c.fs, c.ns, c.bs⟩ := goC_build blC (fun l => ⟨c.hs, c.fs, c.ns, l⟩) c.bs (fun j hj => by
    refine ap_of (h.ob _ (List.getElem_mem hj)) ?_
    unfold doC blocksC
    rw [if_neg (by simp [blC]), if_neg (by simp [blC]), if_neg (by simp [blC]), if_neg (by simp [blC])]
    have n1 : (find kF c.fs (blC c.bs[j]).up).isSome = true := is_some (h.bd _ (List.getElem_mem hj))
    have n2 : takenC ⟨c.hs, c.fs, c.ns, c.bs.take j⟩ (blC c.bs[j]) = false := List.any_eq_false.2 (fun y hy => by
      by_cases e : y.sl = c.bs[j].sl
      · have := h.sl y (List.mem_of_mem_take hy) _ (List.getElem_mem hj) e
        exact absurd this (take_ne lB_lin h.ri.bs hj y hy)
      · simp [blC, e])
    dsimp only
    rw [n1, n2]
    exact congrArg (fun l => ((⟨c.hs, c.fs, c.ns, l⟩ : Ca), true)) (put_take lB_lin h.ri.bs hj))
  unfold chgC
  rw [goC_app, goC_app, goC_app, s1]
  simp only [Option.bind_some]
  rw [s2]
  simp only [Option.bind_some]
  rw [s3]
  simp only [Option.bind_some]
  rw [s4]
end Go.Proofs.YtokhnbdhcehonaaGreat
