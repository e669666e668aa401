/- index: bare. -/
import Derived.Test.YtokhnbdhcehonaaGreatIss
set_option linter.unusedSimpArgs false
set_option linter.unusedVariables false
namespace Go.Proofs.YtokhnbdhcehonaaGreat
open Go Go.RowKit Row
set_option maxRecDepth 100000
section
variable {w : World} {ops : Array Oper} {rest : List Oper} {o : Oper} {a : Act} {Q : Exit → Act → World → Prop}
theorem run_storeVar_cell {P : Program} (w : World) (b j : Nat) (ty : TypeId) (v : Value) (hc : (w.cell? ⟨b, j, none⟩).isSome = true) (hf : w.frozen? ⟨b, j, none⟩ = false) (hi : (P.info? ty).map (·.size) = some 1) (h1 : v.oneCell' = true) :
    (storeVar ty ⟨b, j, none⟩ v).run P w = .ok () (w.setCell ⟨b, j, none⟩ v) := by
  have := run_storeCells_cells (P := P) b j [v] 0 w (fun i hi => by simp at hi; subst hi; simpa using hc) (fun i hi => by simp at hi; subst hi; simpa using hf) (fun x hx => by simp at hx; subst hx; exact h1)
  have hcl : v.cells = #[v] := by cases v <;> first | rfl | cases h1
  cases hq : P.info? ty with
  | none => simp [hq] at hi
  | some i =>
    have hs : i.size = 1 := by simpa [hq] using hi
    simp only [Nat.add_zero] at this
    simp [storeVar, sizeOf, typeInfo, hq, hcl, hs, this, World.setCells]
/-- a cell of a row's block stored -/
theorem rw_cell {α : Type} [Row α] [RowT α] (hgd : o.guard = none) (t : TypeId) (x y : Operand) (ho : o.op = .store t x y) (b j : Nat) (p p' : α) (v : Value) (hx : a.eval x = .pointer (some ⟨b, j, none⟩)) (hy : a.eval y = v) {T : TypeId} (hb : w.heap[b]? = some (.cells (arr p) T))
    (hj : j < n α) (hset : (arr p).setIfInBounds j v = arr p') (h1 : v.oneCell' = true) (hi : (Tryz.prog.info? t).map (·.size) = some 1)
    (h : ∀ w', w'.heap[b]? = some (.cells (arr p') T) → w.grownBy w' (some b) → w'.heap.size = w.heap.size → wpList Tryz.prog ops Q rest (a.put o.dst undef) w') : wpList Tryz.prog ops Q (o :: rest) a w := by
  refine wpList_plain hgd fun K hK => ?_
  have hr := run_storeVar_cell (P := Tryz.prog) w b j t v (by rw [row_cell hb, Array.getElem?_eq_getElem (by rw [arr_size]; exact hj)]; rfl) (row_froz hb _) hi h1
  unfold Oper.wp execOp
  simp only [ho, hx, hy, Instr.storeAt, Instr.sureAddr, Sem.run_bind, Sem.run_pure, Result.andThen_ok, hr]
  refine hK _ _ (h _ ?_ (setCells_grown b [v] j w) (by simp [World.setCell]))
  rw [setCell_heap hb, hset]
end
theorem res_row1 {α : Type} [Row α] [RowT α] {fn : Func} {c : Nat} (h : fn.results = #[.cell c (RowT.T α)]) (tmps : Array Value) (w : World) (g : Nat) (p : α) (hc : tmps.getD c undef = .pointer (some ⟨g, 0, none⟩)) {t : TypeId} (hb : w.heap[g]? = some (.cells (arr p) t)) :
    (results fn tmps).run Tryz.prog w = .ok (.agg (arr p)) w := by
  have hlv := run_loadVar_mid (P := Tryz.prog) w g 0 (RowT.T α) (cells p) _ (range_row hb) RowT.hu RowT.hd (by rw [len]; exact size_T)
  have hc' : tmps[c]?.getD undef = .pointer (some ⟨g, 0, none⟩) := by simpa using hc
  simp [results, h, hc', asAddr, hlv]
theorem Rs.grown {α : Type} [Row α] [RowT α] {w w' : World} {B k : Nat} {v : Value} {l : List α} {C : Array Value} {t : TypeId} (h : Rs w B v l) (hg : w.grownBy w' (some k)) (hk : w.heap[k]? = some (.cells C t)) (ht : t ≠ RowT.T α) : Rs w' B v l :=
  Sl.grown h hg (.inr (Sl.off h hk ht))
theorem size27 : (Tryz.prog.info? 27).map (·.size) = some 1 := by kernel_rfl
theorem size28 : (Tryz.prog.info? 28).map (·.size) = some 1 := by kernel_rfl
theorem size25 : (Tryz.prog.info? 25).map (·.size) = some 1 := by kernel_rfl
theorem size26 : (Tryz.prog.info? 26).map (·.size) = some 1 := by kernel_rfl
structure Few (c : Ca) (m : Nat) : Prop where
  hs : c.hs.length ≤ m
  fs : c.fs.length ≤ m
  ns : c.ns.length ≤ m
  bs : c.bs.length ≤ m
def bareC (c : Ca) (u : ByteArray) : Ca := { c with ns := c.ns.filter (fun y => !decide (y.dir = u)), bs := c.bs.filter (fun y => !decide (y.up = u)) }
set_option maxHeartbeats 8000000 in
theorem bare_any {c : Ca} {cv : Cv} {w : World} (h : CaAt w cv c) (hf : Few c 1000) (u : ByteArray) :
    Calls Tryz.prog 118 #[.agg (arr cv), .string u] w fun r w' => ∃ cv', r = .returned (.agg (arr cv')) ∧ CaAt w' cv' (bareC c u) ∧ Below w.heap.size w w' := by
  obtain ⟨W, hW⟩ : ∃ W, W = ((w.alloc (.cells (arr cv) 30)).alloc (.cells #[.string u] 9)).alloc (.cells (arr (RowT.z : Cv)) (RowT.T Cv)) := ⟨_, rfl⟩
  have hb0 : Below w.heap.size w W := by rw [hW]; go_grown
  have hc0 : W.heap[w.heap.size]? = some (.cells (arr cv) 30) := by rw [hW]; exact heap_old_at (heap_old_at (heap_alloc_new _ _))
  have hu0 : W.heap[w.heap.size + 1]? = some (.cells #[.string u] 9) := by rw [hW]; exact heap_old_at (heap_new_at _ _ (alloc_size _ _))
  have hz0 : W.heap[w.heap.size + 2]? = some (.cells (arr (RowT.z : Cv)) (RowT.T Cv)) := by rw [hW]; exact heap_new_at _ _ (by rw [alloc_size, alloc_size])
  have hsz : W.heap.size = w.heap.size + 3 := by rw [hW, alloc_size, alloc_size, alloc_size]
  have c2 := (cv_cells hc0).2.2.1
  rw [hW] at c2
  have HF := Lib.hid (wo_Nm (h.ns.below hb0) hf.ns (bare1_pb u hu0 (by omega)))
  have HC0 := Lib.hid hc0
  have HU0 := Lib.hid hu0
  have HZ0 := Lib.hid hz0
  have HCA := Lib.hid h
  have HFW := Lib.hid hf
  have HB := Lib.hid hb0
  have HW := Lib.hid hW
  have HSZ := Lib.hid hsz
  clear h hf hb0 hc0 hu0 hz0 hW hsz
  go_enter Tryz.func118, Tryz.ntmps118
  go_wp2_with (refine rw_alloc (α := Cv) rfl rfl ?_)
  rw [← HW.out]
  refine HF.out.mono ?_
  rintro r w1 ⟨v1, rfl, hr1, hb1⟩
  obtain ⟨A1, k1, hv1, _, _⟩ := hr1.any
  subst hv1
  have HR1 := Lib.hid hr1
  have HB1 := Lib.hid hb1
  have HC1 := Lib.hid ((hb1.block _ (heap_lt HC0.out)).trans HC0.out)
  clear hr1 hb1 HF c2
  have HBW1 := Lib.hid (HB.out.trans (HB1.out.mono HB.out.size))
  go_wp2_with (refine rw_cell (α := Cv) rfl 27 (.tmp 9) (.tmp 8) rfl w.heap.size 2 cv { cv with c := ⟨A1, _, k1⟩ } (.slice A1 _ k1) rfl rfl HC1.out (by decide) rfl rfl size27 ?_; intro w2 hb2 hg2 hs2; have HC2 := Lib.hid hb2; have HBW2 := Lib.hid (HBW1.out.grown hg2 HBW1.out.size (fun j hj => by cases hj; exact Nat.le_refl _)); have HR2 := Lib.hid (HR1.out.grown hg2 HC1.out (by decide)); have HU2 := Lib.hid ((hg2.block _ (by have := (heap_lt HU0.out); have := HB1.out.size; omega) (by simp)).trans ((HB1.out.block _ (heap_lt HU0.out)).trans HU0.out)); have HZ2 := Lib.hid ((hg2.block _ (by have := (heap_lt HZ0.out); have := HB1.out.size; omega) (by simp)).trans ((HB1.out.block _ (heap_lt HZ0.out)).trans HZ0.out)); have c3 := (cv_cells hb2).2.2.2; clear hb2 hg2 hs2)
  refine (wo_Bl (HCA.out.bs.below HBW2.out) HFW.out.bs (bare2_pb u HU2.out (heap_lt HU2.out))).mono ?_
  rintro r w3 ⟨v3, rfl, hr3, hb3⟩
  obtain ⟨A3, k3, hv3, _, _⟩ := hr3.any
  subst hv3
  have HR3 := Lib.hid hr3
  have HBW3 := Lib.hid (HBW2.out.trans (hb3.mono HBW2.out.size))
  have HC3 := Lib.hid ((hb3.block _ (heap_lt HC2.out)).trans HC2.out)
  have HR31 := Lib.hid (HR2.out.below hb3)
  have HZ3 := Lib.hid ((hb3.block _ (heap_lt HZ2.out)).trans HZ2.out)
  clear hr3 hb3 c3
  go_wp2_with (first
    | (refine rw_cell (α := Cv) rfl 28 (.tmp 14) (.tmp 13) rfl w.heap.size 3 { cv with c := ⟨A1, _, k1⟩ } { cv with c := ⟨A1, _, k1⟩, d := ⟨A3, _, k3⟩ } (.slice A3 _ k3) rfl rfl HC3.out (by decide) rfl rfl size28 ?_; intro w4 hb4 hg4 hs4; have HC4 := Lib.hid hb4; have HBW4 := Lib.hid (HBW3.out.grown hg4 HBW3.out.size (fun j hj => by cases hj; exact Nat.le_refl _)); have HR4 := Lib.hid (HR31.out.grown hg4 HC3.out (by decide)); have HR43 := Lib.hid (HR3.out.grown hg4 HC3.out (by decide)); have HZ4 := Lib.hid ((hg4.block _ (heap_lt HZ3.out) (by simp)).trans HZ3.out); clear hb4 hg4 hs4)
    | (refine rw_load (α := Cv) rfl (.tmp 2) rfl w.heap.size 0 rfl { cv with c := ⟨A1, _, k1⟩, d := ⟨A3, _, k3⟩ } (range_row HC4.out) ?_)
    | (refine rw_store (α := Cv) rfl (.tmp 4) (.tmp 15) rfl (w.heap.size + 2) { cv with c := ⟨A1, _, k1⟩, d := ⟨A3, _, k3⟩ } _ (arr_size _) rfl rfl HZ4.out ?_; intro w5 hb5 hg5 hs5; have HC5 := Lib.hid hb5; have HBW5 := Lib.hid (HBW4.out.grown hg5 HBW4.out.size (fun j hj => by cases hj; omega)); have HR5 := Lib.hid (HR4.out.grown hg5 HZ4.out (by decide)); have HR53 := Lib.hid (HR43.out.grown hg5 HZ4.out (by decide)); clear hb5 hg5 hs5))
  (try simp only [Exit.inBlock, Exit.then])
  refine bodyPost_ret (res_row1 (α := Cv) Tryz.results118 _ _ (w.heap.size + 2) { cv with c := ⟨A1, _, k1⟩, d := ⟨A3, _, k3⟩ } rfl HC5.out) rfl ?_
  refine ⟨_, rfl, ⟨HCA.out.hs.below HBW5.out, HCA.out.fs.below HBW5.out, HR5.out.mono (Nat.zero_le _), HR53.out.mono (Nat.zero_le _)⟩, HBW5.out⟩
end Go.Proofs.YtokhnbdhcehonaaGreat
