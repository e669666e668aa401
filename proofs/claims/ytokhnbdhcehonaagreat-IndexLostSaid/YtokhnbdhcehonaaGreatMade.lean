/- index: the document's Made. -/
import Derived.Test.YtokhnbdhcehonaaGreatRApp
import Derived.Test.YtokhnbdhcehonaaGreatAppL
import Derived.Test.YtokhnbdhcehonaaGreatRo
set_option linter.unusedSimpArgs false
set_option linter.unusedVariables false
namespace Go.Proofs.YtokhnbdhcehonaaGreat
open Go Go.RowKit Row
set_option maxRecDepth 100000
theorem turn_store {α : Type} [Row α] [RowT α] {w : World} {o : Oper} {a : Act} {K : Value → World → Prop} (x y : Operand) (ho : o.op = .store (RowT.T α) x y) (b : Nat) (p : α) (C : Array Value) (hC : C.size = n α) (hx : a.eval x = .pointer (some ⟨b, 0, none⟩)) (hy : a.eval y = .agg (arr p)) {t : TypeId} (hb : w.heap[b]? = some (.cells C t))
    (hK : ∀ w', w'.heap[b]? = some (.cells (arr p) t) → w.grownBy w' (some b) → w'.heap.size = w.heap.size → K undef w') : effR Tryz.prog K ((execOp a.eval o).run Tryz.prog w) := by
  have hs : (arr p).size = C.size := by rw [arr_size, hC]
  have hst := run_storeVar_mid (P := Tryz.prog) w b 0 (RowT.T α) (arr p) (there_all hb hs) (by rw [arr_size]; exact size_T) (arr_all p)
  unfold execOp
  simp only [ho, hx, hy, Instr.storeAt, Instr.sureAddr, Sem.run_bind, Sem.run_pure, Result.andThen_ok, hst]
  exact hK _ (setCells_all hb hs) (setCells_grown _ _ _ _) (setCells_size _ _ _ _)
theorem turn_load {α : Type} [Row α] [RowT α] {w : World} {o : Oper} {a : Act} {K : Value → World → Prop} (p : Operand) (ho : o.op = .load (RowT.T α) p) (b q : Nat) (hx : a.eval p = .pointer (some ⟨b, q, none⟩)) (x : α) (hr : w.rangeAt b q (cells x)) (hK : K (.agg (arr x)) w) : effR Tryz.prog K ((execOp a.eval o).run Tryz.prog w) := by
  unfold execOp
  simp only [ho, hx, Instr.loadAt, Instr.sureAddr, Sem.run_bind, Sem.run_pure, Result.andThen_ok, run_loadVar_mid w b q (RowT.T α) (cells x) _ hr RowT.hu RowT.hd (by rw [len]; exact size_T)]
  exact hK
theorem dooC_rises {c : Ca} (h : Rises c) (x : Ch) : Rises (dooC c x).1 := by
  unfold dooC
  split
  · exact doC_rises h x
  · exact h
theorem dooC_few {c : Ca} {m : Nat} (h : Few c m) (x : Ch) : Few (dooC c x).1 (m + 1) := by
  unfold dooC
  split
  · exact doC_few h x
  · exact h.up (Nat.le_succ m)
theorem apR_rises {c : Ca} (h : Rises c) (x : Ch) : Rises (apR c x).1 := by
  unfold apR
  split
  · exact dooC_rises h x
  · exact h
theorem apR_few {c : Ca} {m : Nat} (h : Few c m) (x : Ch) : Few (apR c x).1 (m + 1) := by
  unfold apR
  split
  · exact dooC_few h x
  · exact h.up (Nat.le_succ m)
def madeC (l : List Ch) : Ca := l.foldl (fun c x => (apR c x).1) ca0
theorem madeC_next {l : List Ch} {k : Nat} (hk : k < l.length) : madeC (l.take (k + 1)) = (apR (madeC (l.take k)) l[k]).1 := by
  unfold madeC
  rw [List.take_succ_eq_append_getElem hk, List.foldl_append]
  rfl
theorem madeC_ok (l : List Ch) : ∀ k, k ≤ l.length → Rises (madeC (l.take k)) ∧ Few (madeC (l.take k)) k
  | 0, _ => ⟨⟨.nil, .nil, .nil, .nil⟩, ⟨Nat.le_refl _, Nat.le_refl _, Nat.le_refl _, Nat.le_refl _⟩⟩
  | k + 1, hk => by
    obtain ⟨h1, h2⟩ := madeC_ok l k (by omega)
    rw [madeC_next (by omega)]
    exact ⟨apR_rises h1 _, apR_few h2 _⟩
/-- the boxes of a call of Made -/
structure Fm (w wq : World) (dv : Cv) : Prop where
  bl : Below w.heap.size w wq
  zb : wq.heap[w.heap.size]? = some (.cells (arr (RowT.z : Cv)) (RowT.T Cv))
  ob : wq.heap[w.heap.size + 1]? = some (.cells (arr dv) (RowT.T Cv))
section
variable {w wq w' : World} {dv dv' : Cv}
theorem Fm.below (h : Fm w wq dv) (hb : Below wq.heap.size wq w') : Fm w w' dv :=
  ⟨h.bl.trans (hb.mono h.bl.size), (hb.block _ (heap_lt h.zb)).trans h.zb, (hb.block _ (heap_lt h.ob)).trans h.ob⟩
theorem Fm.cell (h : Fm w wq dv) (hc : w'.heap[w.heap.size + 1]? = some (.cells (arr dv') (RowT.T Cv))) (hg : wq.grownBy w' (some (w.heap.size + 1))) : Fm w w' dv' :=
  ⟨h.bl.grown hg h.bl.size (fun j hj => by cases hj; omega), (hg.block _ (heap_lt h.zb) (by simp)).trans h.zb, hc⟩
theorem Fm.ret (h : Fm w wq dv) (hg : wq.grownBy w' (some w.heap.size)) : Below w.heap.size w w' := h.bl.grown hg h.bl.size (fun j hj => by cases hj; exact Nat.le_refl _)
end
set_option maxHeartbeats 16000000 in
theorem made_any {w : World} {l : List Ch} {v : Value} (h : Ro w v l) (hlen : l.length ≤ 50) :
    Calls Tryz.prog 11 #[v] w fun r w' => ∃ cv', r = .returned (.agg (arr cv')) ∧ CaAt w' cv' (madeC l) ∧ Below w.heap.size w w' := by
  obtain ⟨A, cap, hv, hlc, hcap⟩ := h.any
  subst hv
  obtain ⟨W, hW⟩ : ∃ W, W = (w.alloc (.cells (arr (RowT.z : Cv)) (RowT.T Cv))).alloc (.cells (arr (RowT.z : Cv)) (RowT.T Cv)) := ⟨_, rfl⟩
  have HF0 : Hid (Fm w W cv0) := Lib.hid ⟨by rw [hW]; go_grown, by rw [hW]; exact heap_old_at (heap_alloc_new _ _), by rw [hW]; exact heap_new_at _ _ (alloc_size _ _)⟩
  have HC0 := Lib.hid (ca0_at W)
  have HL := Lib.hid h
  have HW := Lib.hid hW
  clear h hW
  have hm63 : maxLen = 9223372036854775807 := rfl
  go_enter Tryz.func11, Tryz.ntmps11
  go_wp2_with (refine rw_alloc (α := Cv) rfl rfl ?_)
  rw [← HW.out]
  go_loopw [4] (fun i wq => ∃ (k : Nat) (dv : Cv), k ≤ l.length ∧ i = .int .i64 k ∧ CaAt wq dv (madeC (l.take k)) ∧ Fm w wq dv) (fun i _ => l.length - (intOf i).toNat)
  case atStart => exact ⟨0, cv0, by omega, rfl, HC0.out, HF0.out⟩
  case round =>
    obtain ⟨k, dv, hk, rfl, hca, hfm⟩ := hrel
    have HC := Lib.hid hca
    have HF := Lib.hid hfm
    clear hca hfm
    by_cases hlt : k < l.length
    · have hltI : (k : Int) < (l.length : Int) := by omega
      obtain ⟨b, off, cap', he, hbl, hrg⟩ := HL.out.at_ (by omega)
      cases he
      have HE := Lib.hid (And.intro (hrg k hlt) hbl)
      clear hbl hrg
      have hok := madeC_ok l k hk
      have HAP := Lib.hid (fun W' (hb : Below wr.heap.size wr W') => rapply_any (HC.out.below hb) (hok.2.up (by omega)) hok.1 l[k])
      have HNX := Lib.hid (madeC_next hlt)
      clear hok
      go_wp2_with fail
      refine wp_region_flow2_lit [(1, false), (2, false), (3, false), (4, false), (0, true), (5, true), (6, false), (7, false), (8, false), (9, true)] (fun wS => Below w.heap.size w wS) (by kernel_rfl) (by kernel_rfl) (by kernel_rfl) HF.out.bl.drew ?_
      repeat (first | (refine' flow2_pass (o := _) rfl _ _; (focus rfl); simp only [Act.put, List.setIfInBounds_toArray, List.set_cons_zero, List.set_cons_succ]) | (refine' flow2_take (v := _) (o := _) rfl _ _ _; rotate_left; (focus rfl); (focus (intro wS hS; have hE := Ext.refl wS; (skip); go_simp; try (with_reducible (first | exact ⟨rfl, hS, hE⟩ | rfl)); done)); simp only [Act.put, List.setIfInBounds_toArray, List.set_cons_zero, List.set_cons_succ]))
      (refine flow2_take (v := .agg (arr l[k])) (o := _) rfl rfl (fun wS hS => gives_row rfl rfl (rangeAt_below HE.out.1 HE.out.2 hS) ⟨hS, Ext.refl wS⟩) ?_; simp only [Act.put, List.setIfInBounds_toArray, List.set_cons_zero, List.set_cons_succ])
      refine flow2_turn (o := _) rfl rfl ?_
      intro w2 hE hS K hK
      have hE2 : Below wr.heap.size wr w2 := (Below.refl _ _).drew.trans hE
      have HF2 := Lib.hid (HF.out.below hE2)
      have HA2 := Lib.hid (HAP.out)
      refine turn_load (α := Cv) (.tmp 3) rfl (w.heap.size + 1) 0 rfl dv (range_row HF2.out.ob) ?_
      refine hK _ _ hS ?_
      have HE2 := Lib.hid hE2
      clear hE hS hK K hE2
      simp only [Act.put, List.setIfInBounds_toArray, List.set_cons_zero, List.set_cons_succ]
      refine flow2_turn (o := _) rfl rfl ?_
      intro wT hE hS K hK
      go_simp
      refine (HAP.out wT (HE2.out.trans (hE.mono HE2.out.size))).mono ?_
      rintro e w3 ⟨cv1, rfl, hca1, hb3⟩
      rw [← HNX.out] at hca1
      have HF3 := Lib.hid ((HF2.out.below hE).below hb3)
      refine hK _ _ HF3.out.bl ?_
      have HC1 := Lib.hid hca1
      clear hE hS hK K hb3 hca1 HA2
      simp only [Act.put, List.setIfInBounds_toArray, List.set_cons_zero, List.set_cons_succ]
      repeat (first | (refine' flow2_pass (o := _) rfl _ _; (focus rfl); simp only [Act.put, List.setIfInBounds_toArray, List.set_cons_zero, List.set_cons_succ]) | (refine' flow2_take (v := _) (o := _) rfl _ _ _; rotate_left; (focus rfl); (focus (intro wS hS; have hE := Ext.refl wS; (skip); go_simp; try (with_reducible (first | exact ⟨rfl, hS, hE⟩ | rfl)); done)); simp only [Act.put, List.setIfInBounds_toArray, List.set_cons_zero, List.set_cons_succ]))
      refine flow2_turn (o := _) rfl rfl ?_
      intro wX hE hS K hK
      refine turn_store (α := Cv) (.tmp 3) (.tmp 18) rfl (w.heap.size + 1) cv1 _ (arr_size _) rfl rfl (HF3.out.below hE).ob ?_
      intro w5 hb5 hg5 hs5
      have HF5 := Lib.hid ((HF3.out.below hE).cell hb5 hg5)
      have HC5 := Lib.hid ((HC1.out.below hE).grown hg5 (HF3.out.below hE).ob)
      refine hK _ _ HF5.out.bl ?_
      clear hE hS hK K hb5 hg5 hs5
      simp only [Act.put, List.setIfInBounds_toArray, List.set_cons_zero, List.set_cons_succ]
      refine flow2_nil ?_
      intro w6 hE hS
      have HF6 := Lib.hid (HF5.out.below hE)
      have HC6 := Lib.hid (HC5.out.below hE)
      clear hE hS
      go_wp2_with fail
      go_roundw
      case rel => exact ⟨k + 1, cv1, by omega, by go_num, HC6.out, HF6.out⟩
      case measure => simp [intOf]; omega
    · have hltI : ¬ (k : Int) < (l.length : Int) := by omega
      obtain rfl : k = l.length := by omega
      have hca := HC.out
      rw [List.take_length] at hca
      have HC1 := Lib.hid hca
      clear HC hca
      go_wp2_with (first
          | (refine rw_load (α := Cv) rfl (.tmp 3) rfl (w.heap.size + 1) 0 rfl dv (range_row HF.out.ob) ?_)
          | (refine rw_store (α := Cv) rfl (.tmp 2) (.tmp 20) rfl w.heap.size dv _ (arr_size _) rfl rfl HF.out.zb ?_; intro w5 hb5 hg5 hs5; have HC5 := Lib.hid hb5; have HB5 := Lib.hid (HF.out.ret hg5); have HC6 := Lib.hid (HC1.out.grown hg5 HF.out.zb); clear hb5 hg5 hs5))
      (try simp only [Exit.inBlock, Exit.then])
      refine bodyPost_ret (res_row1 (α := Cv) Tryz.results11 _ _ w.heap.size dv rfl HC5.out) rfl ?_
      exact ⟨_, rfl, HC6.out, HB5.out⟩
end Go.Proofs.YtokhnbdhcehonaaGreat
