/- index: the closures that look at fields; slices.ContainsFunc. -/
import Derived.Test.YtokhnbdhcehonaaGreatPc
import Derived.Test.YtokhnbdhcehonaaGreatIx
set_option linter.unusedSimpArgs false
set_option linter.unusedVariables false
namespace Go.Proofs.YtokhnbdhcehonaaGreat
open Go Go.RowKit Row
set_option maxRecDepth 100000
section
variable {w : World} {ops : Array Oper} {rest : List Oper} {o : Oper} {a : Act} {Q : Exit → Act → World → Prop}
theorem wpList_want {P : Program} (hw : Region.wanted o (yielded ops a.tmps) = true) (h : ∀ K : Act → World → Prop, (∀ a w, wpList P ops Q rest a w → K a w) → o.wp P a w K Q) : wpList P ops Q (o :: rest) a w :=
  wpList_step fun K hK => by rw [if_pos hw]; exact h K hK
/-- a load of a row where a guard lets it be -/
theorem rg_load {α : Type} [Row α] [RowT α] (hw : Region.wanted o (yielded ops a.tmps) = true) (p : Operand) (ho : o.op = .load (RowT.T α) p) (b q : Nat) (hx : a.eval p = .pointer (some ⟨b, q, none⟩)) (x : α) (hr : w.rangeAt b q (cells x))
    (h : wpList Tryz.prog ops Q rest (a.put o.dst (.agg (arr x))) w) : wpList Tryz.prog ops Q (o :: rest) a w :=
  wpList_want hw fun _ hK => wp_load_mid (RowT.T α) p ho b q hx (cells x) _ hr RowT.hu RowT.hd (by rw [len]; exact size_T) (hK _ _ h)
end
theorem str_eq (a b : ByteArray) : (a.toList == b.toList) = decide (a = b) := by
  by_cases h : a = b
  · subst h; simp
  · rw [decide_eq_false h, beq_eq_false_iff_ne]
    exact fun e => h (bytes_ext e)
/-- bare's two -/
theorem bare1_pb {B b : Nat} {w : World} (u : ByteArray) (hb : w.heap[b]? = some (.cells #[.string u] 9)) (hlt : b < B) : PB B w 137 #[.pointer (some ⟨b, 0, none⟩)] (fun y : Nm => decide (y.dir = u)) := by
  refine ⟨fun args w => enters_of Tryz.func137 (by kernel_rfl) rfl args w, fun W y hW => ?_⟩
  have hbW := (hW.block b hlt).trans hb
  have hx := heap_old_at (o := .cells (arr y) 54) hbW
  have hy := heap_alloc_new W (.cells (arr y) 54)
  have x0 : (W.alloc (.cells (arr y) 54)).cell? ⟨b, 0, none⟩ = some (.string u) := by rw [row_cell hx]; rfl
  have y0 : (W.alloc (.cells (arr y) 54)).cell? ⟨W.heap.size, 0, none⟩ = some (.string y.dir) := by rw [row_cell hy]; rfl
  have h0 := str_eq y.dir u
  have HB : Hid (Below W.heap.size W (W.alloc (.cells (arr y) 54))) := Lib.hid (by go_grown)
  clear hbW hb hW hx hy
  generalize decide (y.dir = u) = r at h0 ⊢
  show Calls _ _ #[.agg (arr y), .pointer (some ⟨b, 0, none⟩)] _ _
  go_enter Tryz.func137, Tryz.ntmps137
  go_wp2_with fail
  go_ret
  exact ⟨rfl, HB.out⟩
theorem bare2_pb {B b : Nat} {w : World} (u : ByteArray) (hb : w.heap[b]? = some (.cells #[.string u] 9)) (hlt : b < B) : PB B w 138 #[.pointer (some ⟨b, 0, none⟩)] (fun y : Bl => decide (y.up = u)) := by
  refine ⟨fun args w => enters_of Tryz.func138 (by kernel_rfl) rfl args w, fun W y hW => ?_⟩
  have hbW := (hW.block b hlt).trans hb
  have hx := heap_old_at (o := .cells (arr y) 59) hbW
  have hy := heap_alloc_new W (.cells (arr y) 59)
  have x0 : (W.alloc (.cells (arr y) 59)).cell? ⟨b, 0, none⟩ = some (.string u) := by rw [row_cell hx]; rfl
  have y0 : (W.alloc (.cells (arr y) 59)).cell? ⟨W.heap.size, 0, none⟩ = some (.string y.up) := by rw [row_cell hy]; rfl
  have h0 := str_eq y.up u
  have HB : Hid (Below W.heap.size W (W.alloc (.cells (arr y) 59))) := Lib.hid (by go_grown)
  clear hbW hb hW hx hy
  generalize decide (y.up = u) = r at h0 ⊢
  show Calls _ _ #[.agg (arr y), .pointer (some ⟨b, 0, none⟩)] _ _
  go_enter Tryz.func138, Tryz.ntmps138
  go_wp2_with fail
  go_ret
  exact ⟨rfl, HB.out⟩
/-- files' -/
theorem files1_pb {B b : Nat} {w : World} (x : Ch) (hb : w.heap[b]? = some (.cells (arr x) 69)) (hlt : b < B) : PB B w 117 #[.pointer (some ⟨b, 0, none⟩)] (fun y : Fl => decide (y.up = x.up)) := by
  refine ⟨fun args w => enters_of Tryz.func117 (by kernel_rfl) rfl args w, fun W y hW => ?_⟩
  have hbW := (hW.block b hlt).trans hb
  have hx := heap_old_at (o := .cells (arr y) 50) hbW
  have hy := heap_alloc_new W (.cells (arr y) 50)
  have x0 : (W.alloc (.cells (arr y) 50)).cell? ⟨b, 3, none⟩ = some (.string x.up) := by rw [row_cell hx]; rfl
  have y0 : (W.alloc (.cells (arr y) 50)).cell? ⟨W.heap.size, 0, none⟩ = some (.string y.up) := by rw [row_cell hy]; rfl
  have h0 := str_eq y.up x.up
  have HB : Hid (Below W.heap.size W (W.alloc (.cells (arr y) 50))) := Lib.hid (by go_grown)
  clear hbW hb hW hx hy
  generalize decide (y.up = x.up) = r at h0 ⊢
  show Calls _ _ #[.agg (arr y), .pointer (some ⟨b, 0, none⟩)] _ _
  go_enter Tryz.func117, Tryz.ntmps117
  go_wp2_with fail
  go_ret
  exact ⟨rfl, HB.out⟩
/-- is another block in a slot -/
theorem blocks2_pb {B b : Nat} {w : World} (q : Bl) (hb : w.heap[b]? = some (.cells (arr q) 59)) (hlt : b < B) : PB B w 110 #[.pointer (some ⟨b, 0, none⟩)] (fun y : Bl => y.sl == q.sl && !decide (kB y = kB q)) := by
  refine ⟨fun args w => enters_of Tryz.func110 (by kernel_rfl) rfl args w, fun W y hW => ?_⟩
  have hbW := (hW.block b hlt).trans hb
  have hx := heap_old_at (o := .cells (arr y) 59) hbW
  have hy := heap_alloc_new W (.cells (arr y) 59)
  have x0 : (W.alloc (.cells (arr y) 59)).cell? ⟨b, 2, none⟩ = some (.int .i64 q.sl) := by rw [row_cell hx]; rfl
  have y0 : (W.alloc (.cells (arr y) 59)).cell? ⟨W.heap.size, 2, none⟩ = some (.int .i64 y.sl) := by rw [row_cell hy]; rfl
  have HX := Lib.hid hx
  have HY := Lib.hid hy
  have HB : Hid (Below W.heap.size W (W.alloc (.cells (arr y) 59))) := Lib.hid (by go_grown)
  have HC := Lib.hid (fun w => placed_any y q w)
  have H0 := Lib.hid (c3_zero lB_lin (kB y) (kB q))
  clear hbW hb hW hx hy
  show Calls _ _ #[.agg (arr y), .pointer (some ⟨b, 0, none⟩)] _ _
  cases hs : (y.sl == q.sl) with
  | false =>
    rw [Bool.false_and]
    go_enter Tryz.func110, Tryz.ntmps110
    go_wp2_with fail
    go_ret
    exact ⟨rfl, HB.out⟩
  | true =>
    rw [Bool.true_and]
    generalize hd : decide (kB y = kB q) = r at H0 ⊢
    have h1 : (c3 lB (kB y) (kB q) != 0) = !r := by rw [← H0.out]; rfl
    clear hd
    go_enter Tryz.func110, Tryz.ntmps110
    go_wp2_with (first
      | (refine rg_load (α := Bl) rfl (.tmp 2) rfl W.heap.size 0 rfl y (range_row HY.out) ?_)
      | (refine rg_load (α := Bl) rfl (.tmp 1) rfl b 0 rfl q (range_row HX.out) ?_))
    refine (HC.out _).mono ?_
    rintro e w' ⟨rfl, hbw⟩
    have HBW := Lib.hid (HB.out.trans (hbw.mono HB.out.size))
    clear hbw
    go_wp2_with fail
    go_ret
    exact ⟨rfl, HBW.out⟩
theorem cb_any {l : List Bl} {v : Value} {B B' : Nat} {w : World} {g : Nat} {lb : Array Value} {p : Bl → Bool} (hp : PB B w g lb p) (hB : B ≤ w.heap.size) (h : Rs w B' v l) :
    Calls Tryz.prog 69 #[v, .func (.func g) #[] lb] w fun e w' => e = .returned (.bool (l.any p)) ∧ Below w.heap.size w w' := by
  have HIX := Lib.hid (ix_Bl hp hB h)
  obtain ⟨A, cap, hv, hlc, hcap⟩ := h.any
  subst hv
  clear hp h
  go_enter Tryz.func69, Tryz.ntmps69
  go_wp2_with fail
  refine HIX.out.mono ?_
  rintro e w1 ⟨i0, rfl, hb1, hcase⟩
  have HB1 := Lib.hid hb1
  clear hb1
  rcases hcase with ⟨rfl, hno⟩ | ⟨j, hj, rfl, hpj, hno⟩
  · have HF : Hid (l.any p = false) := Lib.hid (by rw [List.any_eq_false]; intro x hx; rw [hno x hx]; simp)
    clear hno
    go_wp2_with fail
    go_ret
    rw [HF.out]
    exact ⟨rfl, HB1.out⟩
  · have HF : Hid (l.any p = true) := Lib.hid (List.any_eq_true.2 ⟨l[j], List.getElem_mem hj, hpj⟩)
    clear hno hpj
    go_wp2_with fail
    go_ret
    rw [HF.out]
    exact ⟨rfl, HB1.out⟩
end Go.Proofs.YtokhnbdhcehonaaGreat
