/- index: Issued, bare. -/
import Derived.Test.YtokhnbdhcehonaaGreatCa
import Derived.Test.YtokhnbdhcehonaaGreatWo
set_option linter.unusedSimpArgs false
set_option linter.unusedVariables false
namespace Go.Proofs.YtokhnbdhcehonaaGreat
open Go Go.RowKit Row
set_option maxRecDepth 100000
theorem find_first {α κ : Type} [DecidableEq κ] {k : α → κ} {l : List α} {q : κ} {i : Nat} (hi : i < l.length) (h : ∀ y ∈ l.take i, k y ≠ q) (he : k l[i] = q) : find k l q = some l[i] := by
  unfold find
  conv => lhs; rw [← List.take_append_drop i l, List.drop_eq_getElem_cons hi]
  rw [List.find?_append, List.find?_eq_none.2 (fun y hy => by simpa using h y hy), List.find?_cons_of_pos (by simpa using he)]
  rfl
abbrev kU (x : Hd) : ByteArray := x.up
set_option maxHeartbeats 8000000 in
theorem issued_any {c : Ca} {cv : Cv} {w : World} (h : CaAt w cv c) (u : ByteArray) :
    Calls Tryz.prog 17 #[.agg (arr cv), .string u] w fun r w' => r = .returned (.tuple #[.agg (arr ((find kU c.hs u).getD RowT.z)), .bool (find kU c.hs u).isSome]) ∧ Below w.heap.size w w' := by
  obtain ⟨r, hfr⟩ : ∃ r, r = find kU c.hs u := ⟨_, rfl⟩
  rw [← hfr]
  have HFR := Lib.hid hfr
  obtain ⟨W, hW⟩ : ∃ W, W = (w.alloc (.cells (arr cv) 30)).alloc (.cells (arr (RowT.z : Hd)) (RowT.T Hd)) := ⟨_, rfl⟩
  have hb0 : Below w.heap.size w W := by rw [hW]; go_grown
  have c0 := (cv_cells (heap_old_at (o := .cells (arr (RowT.z : Hd)) (RowT.T Hd)) (heap_alloc_new w (.cells (arr cv) 30)))).1
  have HZ : Hid (W.heap[w.heap.size + 1]? = some (.cells (arr (RowT.z : Hd)) (RowT.T Hd))) := Lib.hid (by rw [hW]; exact heap_new_at _ _ (alloc_size _ _))
  have hr := h.hs.below hb0
  have HB := Lib.hid hb0
  have HW := Lib.hid hW
  clear h hb0 hfr hW
  generalize c.hs = l at *
  obtain ⟨A, cap, hv, hlc, hcap⟩ := hr.any
  rw [hv] at c0
  have HR := Lib.hid hr
  rw [hv] at HR
  clear hv hr
  have hm63 : maxLen = 9223372036854775807 := rfl
  go_enter Tryz.func17, Tryz.ntmps17
  go_wp2_with (refine rw_alloc (α := Hd) rfl rfl ?_)
  rw [← HW.out]
  clear c0
  go_loopw [11] (fun i wq => ∃ k : Nat, k ≤ l.length ∧ i = .int .i64 k ∧ (∀ y ∈ l.take k, kU y ≠ u) ∧ Below W.heap.size W wq) (fun i _ => l.length - (intOf i).toNat)
  case atStart => exact ⟨0, by omega, rfl, fun y hy => by simp at hy, Below.refl _ _⟩
  case round =>
    obtain ⟨k, hk, rfl, hno, hbq⟩ := hrel
    have HQ := Lib.hid hbq
    have HN := Lib.hid hno
    clear hbq hno
    by_cases hlt : k < l.length
    · have hltI : (k : Int) < (l.length : Int) := by omega
      obtain ⟨b, off, cap', he, _, _⟩ := HR.out.shape (by omega)
      cases he
      have HE := Lib.hid (rangeAt_below (HR.out.range hlt) (HR.out.lt b rfl) HQ.out)
      have y2 : (wr.alloc (.cells (arr l[k]) (RowT.T Hd))).cell? ⟨wr.heap.size, 2, none⟩ = some (.string l[k].up) := by rw [row_cell (heap_alloc_new wr _)]; rfl
      have hse := str_eq l[k].up u
      by_cases hu : l[k].up = u
      · rw [decide_eq_true hu] at hse
        have hf : r = some l[k] := HFR.out.trans (find_first hlt HN.out hu)
        subst hf
        have HZ1 := Lib.hid (heap_old_at (o := .cells (arr l[k]) (RowT.T Hd)) ((HQ.out.block _ (heap_lt HZ.out)).trans HZ.out))
        have HBA := Lib.hid (HB.out.trans ((HQ.out.trans ((bel_box (w := wr) (o := .cells (arr l[k]) (RowT.T Hd))).mono HQ.out.size)).mono HB.out.size))
        clear hu
        go_wp2_with (first
          | (refine rw_put (α := Hd) _ 7 (.tmp 14) rfl rfl rfl rfl rfl rfl l[k] rfl rfl ?_)
          | (refine rw_load (α := Hd) rfl (.tmp 13) rfl b (off + k * 3) rfl l[k] HE.out ?_)
          | (refine rw_load (α := Hd) rfl (.tmp 7) rfl wr.heap.size 0 rfl l[k] (range_row (heap_alloc_new _ _)) ?_)
          | (refine rw_store (α := Hd) rfl (.tmp 4) (.tmp 19) rfl (w.heap.size + 1) l[k] _ (arr_size _) rfl rfl HZ1.out ?_; intro w2 hb2 hg2 hs2; have hbl : Below w.heap.size w w2 := HBA.out.grown hg2 HBA.out.size (fun j hj => by cases hj; exact Nat.le_succ _)))
        (try simp only [Exit.inBlock, Exit.then])
        refine bodyPost_ret (res_row (α := Hd) Tryz.results17 _ _ (w.heap.size + 1) l[k] (.bool true) rfl rfl hb2) rfl ?_
        exact ⟨rfl, hbl⟩
      · rw [decide_eq_false hu] at hse
        have HU := Lib.hid hu
        have HT : Hid (l.take (k + 1) = l.take k ++ [l[k]]) := Lib.hid (by rw [List.take_succ_eq_append_getElem hlt])
        clear hu
        go_wp2_with (first
          | (refine rw_put (α := Hd) _ 7 (.tmp 14) rfl rfl rfl rfl rfl rfl l[k] rfl rfl ?_)
          | (refine rw_load (α := Hd) rfl (.tmp 13) rfl b (off + k * 3) rfl l[k] HE.out ?_))
        go_roundw
        case rel => exact ⟨k + 1, by omega, by go_num, fun y hy => by
          rw [HT.out] at hy
          rcases List.mem_append.1 hy with h1 | h1
          · exact HN.out y h1
          · rw [List.mem_singleton.1 h1]; exact HU.out, HQ.out.trans ((bel_box (w := wr)).mono HQ.out.size)⟩
        case measure => simp [intOf]; omega
    · have hltI : ¬ (k : Int) < (l.length : Int) := by omega
      obtain rfl : k = l.length := by omega
      have hf : r = none := HFR.out.trans (find_none.2 (by have := HN.out; rwa [List.take_length] at this))
      subst hf
      have HZ1 := Lib.hid ((HQ.out.block _ (heap_lt HZ.out)).trans HZ.out)
      have HBA := Lib.hid (HB.out.trans (HQ.out.mono HB.out.size))
      clear HN
      go_wp2_with (refine rw_store (α := Hd) rfl (.tmp 4) (.tmp 21) rfl (w.heap.size + 1) RowT.z _ (arr_size _) rfl rfl HZ1.out ?_; intro w2 hb2 hg2 hs2; have hbl : Below w.heap.size w w2 := HBA.out.grown hg2 HBA.out.size (fun j hj => by cases hj; exact Nat.le_succ _))
      (try simp only [Exit.inBlock, Exit.then])
      refine bodyPost_ret (res_row (α := Hd) Tryz.results17 _ _ (w.heap.size + 1) RowT.z (.bool false) rfl rfl hb2) rfl ?_
      exact ⟨rfl, hbl⟩
end Go.Proofs.YtokhnbdhcehonaaGreat
