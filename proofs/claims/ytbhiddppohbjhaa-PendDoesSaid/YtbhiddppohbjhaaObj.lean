/- pend.Table: calls as rows of 34 cells, never taken apart; the walk's steps on them; a map of them. -/
import Derived.Test.YtbhiddppohbjhaaProg
import Derived.Test.YtbhiddppohbjhaaSlice
import Derived.Test.YtbhiddppohbjhaaOpen
import Derived.Handy
import Derived.Lib.Hide
import Derived.Maps.OwnSet
import Derived.Maps.RangeWalk
import Derived.WalkSpells
import Derived.Deep.RegionLaw
import Derived.Deep.RegionHeld3
import Derived.Deep.MidRow
import Derived.Deep.CutRange
import Derived.Lib.SliceRun
namespace Go.Proofs.Ytbhiddppohbjhaa
open Go Go.RowKit Go.Maps Go.WideShapes Go.ChangeMaps Go.WideMaps Go.MapKept

/-- a call that was handed on; re: its arguments' 24 cells -/
structure Pd where
  cl : Int
  sq : Int
  ui : Int
  gi : Int
  fr : Int
  xi : Int
  ag : Bool
  up : Int
  sn : Int
  du : Int
  re : List Value
def ks24 : List Nat := [2, 1, 1, 1, 1, 2, 2, 2, 1, 0, 2, 0, 2, 0, 2, 0, 2, 0, 2, 0, 2, 2, 2, 1]
def Pd.cells (p : Pd) : List Value := .int .i64 p.cl :: .int .i64 p.sq :: .int .i64 p.ui :: .int .i64 p.gi :: .int .i64 p.fr :: .int .i64 p.xi :: .bool p.ag :: .int .i64 p.up :: .int .i64 p.sn :: .int .i64 p.du :: p.re
def Pd.arr (p : Pd) : Array Value := p.cells.toArray
def Pd.obj (p : Pd) : Obj := .cells p.arr 37
def zre : List Value := [.int .i64 0, .string ⟨#[]⟩, .string ⟨#[]⟩, .string ⟨#[]⟩, .string ⟨#[]⟩, .int .i64 0, .int .i64 0, .int .i64 0, .string ⟨#[]⟩, .bool false, .int .i64 0, .bool false, .int .i64 0, .bool false, .int .i64 0, .bool false, .int .i64 0, .bool false, .int .i64 0, .bool false, .int .i64 0, .int .i64 0, .int .i64 0, .string ⟨#[]⟩]
def zP : Pd := ⟨0, 0, 0, 0, 0, 0, false, 0, 0, 0, zre⟩
theorem leaf_one {k : Nat} {v : Value} (h : leafOk k v) : v.oneCell' = true := by
  unfold leafOk at h
  split at h <;> first | rfl | exact h.elim
theorem typed_one : ∀ {ks : List Nat} {vs : List Value}, Typed ks vs → ∀ v ∈ vs, v.oneCell' = true
  | [], [], _, v, hv => by cases hv
  | [], _ :: _, h, _, _ => h.elim
  | _ :: _, [], h, _, _ => h.elim
  | k :: ks, u :: vs, h, v, hv => by
    rcases List.mem_cons.1 hv with e | e
    · rw [e]; exact leaf_one h.1
    · exact typed_one h.2 v e
/-- the numbers that are keys, or are held against others, are int64s -/
structure Pd.ok (p : Pd) : Prop where
  re : Typed ks24 p.re
  cl : (Lit.int .i64 p.cl).wf = true
  du : (Lit.int .i64 p.du).wf = true
theorem zP_ok : zP.ok := ⟨by unfold zP zre ks24; simp [Typed, leafOk, Lit.wf, maxLen]; decide, by decide, by decide⟩
theorem Pd.len {p : Pd} (h : p.ok) : p.cells.length = 34 := by
  have := h.re.length
  simp [Pd.cells, this, ks24]
theorem Pd.size {p : Pd} (h : p.ok) : p.arr.size = 34 := by unfold Pd.arr; simpa using Pd.len h
theorem Pd.one {p : Pd} (h : p.ok) : ∀ v ∈ p.cells, v.oneCell' = true := by
  intro v hv
  simp only [Pd.cells, List.mem_cons] at hv
  rcases hv with e | e | e | e | e | e | e | e | e | e | e
  all_goals first | (subst e; rfl) | exact typed_one h.re v e
theorem Pd.all {p : Pd} (h : p.ok) : p.arr.all (·.oneCell') = true := all_oneCell_toArray (Pd.one h)
theorem info37 : (Try.prog.info? 37).map (fun i => (i.zero, i.size, i.bytes)) = some (some (.agg zP.arr), 34, 320) := by kernel_rfl
theorem size37 : (Try.prog.info? 37).map (·.size) = some 34 := by kernel_rfl
theorem zero37 (w : World) : (zeroValue 37).run Try.prog w = .ok (.agg zP.arr) w := by kernel_rfl
theorem build37 (w : World) : (Instr.build 37 #[]).run Try.prog w = .ok (.agg zP.arr) w := by kernel_rfl
theorem alloc37 (w : World) : (Instr.alloc 37 true (.tuple #[])).run Try.prog w = .ok (.pointer (some ⟨w.heap.size, 0, none⟩)) (w.alloc (.cells zP.arr 37)) := by kernel_rfl

theorem heap_new_at (W : World) (o : Obj) {S : Nat} (h : W.heap.size = S) : (W.alloc o).heap[S]? = some o := h ▸ heap_alloc_new W o
theorem heap_old_at {W : World} {o x : Obj} {q : Nat} (h : W.heap[q]? = some x) : (W.alloc o).heap[q]? = some x := (alloc_old _ _ _ (heap_lt h)).trans h
/-! ### the walk's steps -/
section
variable {w : World} {ops : Array Oper} {rest : List Oper} {o : Oper} {a : Act} {Q : Exit → Act → World → Prop}
theorem pw_alloc (hgd : o.guard = none) (ho : o.op = .alloc 37) (h : wpList Try.prog ops Q rest (a.put o.dst (.pointer (some ⟨w.heap.size, 0, none⟩))) (w.alloc (.cells zP.arr 37))) : wpList Try.prog ops Q (o :: rest) a w := by
  refine wpList_plain hgd fun K hK => ?_
  unfold Oper.wp execOp
  simp only [ho, Sem.run_bind, Sem.run_pure, Result.andThen_ok, alloc37]
  exact hK _ _ h
theorem pw_build (hgd : o.guard = none) (ho : o.op = .build 37 #[]) (h : wpList Try.prog ops Q rest (a.put o.dst (.agg zP.arr)) w) : wpList Try.prog ops Q (o :: rest) a w := by
  refine wpList_plain hgd fun K hK => ?_
  unfold Oper.wp execOp
  simp only [ho, Sem.run_bind, Sem.run_pure, Result.andThen_ok, List.map_toArray, List.map_nil, build37]
  exact hK _ _ h
theorem setCells_size (b : Nat) : ∀ (vs : List Value) (o : Nat) (w : World), (w.setCells b o vs).heap.size = w.heap.size
  | [], _, _ => rfl
  | v :: r, o, w => by
    rw [World.setCells, setCells_size b r]
    simp [World.setCell]
theorem overl_all {C D : Array Value} (hs : D.size = C.size) : overl C 0 D.toList = D := by
  apply Array.ext_getElem?
  intro j
  by_cases hj : j < D.size
  · have := overl_in C 0 D.toList j (by simpa using hj) (by simp [hs])
    rw [Nat.zero_add] at this
    rw [this]
    simp
  · rw [overl_out _ _ _ _ (.inr (by simp; omega)), Array.getElem?_eq_none (by omega), Array.getElem?_eq_none (by omega)]
theorem setCells_new (w : World) (t : TypeId) : ∀ (vs : List Value) (o : Nat) (C : Array Value), (w.alloc (.cells C t)).setCells w.heap.size o vs = w.alloc (.cells (overl C o vs) t)
  | [], _, _ => rfl
  | v :: r, o, C => by
    rw [World.setCells, World.setCell_alloc_new, setCells_new w t r (o + 1), overl]
theorem setCells_alloc {w : World} {C D : Array Value} (hs : D.size = C.size) : (w.alloc (.cells C 37)).setCells w.heap.size 0 D.toList = w.alloc (.cells D 37) := by
  rw [setCells_new, overl_all hs]
theorem setCells_all {w : World} {b : Nat} {C D : Array Value} (hb : w.heap[b]? = some (.cells C 37)) (hs : D.size = C.size) : (w.setCells b 0 D.toList).heap[b]? = some (.cells D 37) := by
  rw [setCells_heap _ _ _ _ hb, overl_all hs]
theorem there_all {w : World} {b : Nat} {C : Array Value} {n : Nat} (hb : w.heap[b]? = some (.cells C 37)) (hs : n = C.size) : w.there b 0 n := fun j hj => by
  rw [Nat.zero_add, row_cell hb, row_froz hb]
  exact ⟨by rw [Array.getElem?_eq_getElem (by omega)]; rfl, rfl⟩
/-- a whole call stored into a block of one -/
theorem pw_store (hgd : o.guard = none) (x y : Operand) (ho : o.op = .store 37 x y) (b : Nat) (p : Pd) (hp : p.ok) (C : Array Value) (hC : C.size = 34) (hx : a.eval x = .pointer (some ⟨b, 0, none⟩)) (hy : a.eval y = .agg p.arr) (hb : w.heap[b]? = some (.cells C 37))
    (h : ∀ w', w'.heap[b]? = some (.cells p.arr 37) → w.grownBy w' (some b) → w'.heap.size = w.heap.size → wpList Try.prog ops Q rest (a.put o.dst undef) w') : wpList Try.prog ops Q (o :: rest) a w := by
  have hs : p.arr.size = C.size := by rw [Pd.size hp, hC]
  refine wpList_store_mid hgd 37 x y ho b 0 p.arr hx hy (there_all hb hs) (by rw [Pd.size hp]; exact size37) (Pd.all hp) ?_
  exact h _ (setCells_all hb hs) (setCells_grown _ _ _ _) (setCells_size _ _ _ _)
/-- a new block, a call stored into it at once -/
theorem pw_put (o' : Oper) (d : Nat) (y : Operand) (hgd : o.guard = none) (hgd' : o'.guard = none) (ho : o.op = .alloc 37) (hd : o.dst = some d) (ho' : o'.op = .store 37 (.tmp d) y) (hd' : o'.dst = none) (p : Pd) (hp : p.ok)
    (hx : (a.put (some d) (.pointer (some ⟨w.heap.size, 0, none⟩))).eval (.tmp d) = .pointer (some ⟨w.heap.size, 0, none⟩)) (hy : (a.put (some d) (.pointer (some ⟨w.heap.size, 0, none⟩))).eval y = .agg p.arr)
    (h : wpList Try.prog ops Q rest (a.put (some d) (.pointer (some ⟨w.heap.size, 0, none⟩))) (w.alloc (.cells p.arr 37))) : wpList Try.prog ops Q (o :: o' :: rest) a w := by
  refine pw_alloc hgd ho ?_
  rw [hd]
  have hs : p.arr.size = zP.arr.size := by rw [Pd.size hp, Pd.size zP_ok]
  refine wpList_store_mid hgd' 37 (.tmp d) y ho' w.heap.size 0 p.arr hx hy (there_all (heap_alloc_new _ _) hs) (by rw [Pd.size hp]; exact size37) (Pd.all hp) ?_
  rw [hd']
  have e : (w.alloc (.cells zP.arr 37)).setCells w.heap.size 0 p.arr.toList = w.alloc (.cells p.arr 37) := setCells_alloc hs
  rw [e]
  exact h
/-- a whole call loaded out of a block of one -/
theorem pw_load (hgd : o.guard = none) (x : Operand) (ho : o.op = .load 37 x) (b : Nat) (hx : a.eval x = .pointer (some ⟨b, 0, none⟩)) (p : Pd) (hp : p.ok) (hb : w.heap[b]? = some (.cells p.arr 37))
    (h : wpList Try.prog ops Q rest (a.put o.dst (.agg p.arr)) w) : wpList Try.prog ops Q (o :: rest) a w :=
  wpList_load_row hgd 37 x ho b hx 37 p.arr _ _ hb Try.underlying37 rfl (by rw [Pd.size hp]; exact size37) h
end
end Go.Proofs.Ytbhiddppohbjhaa
