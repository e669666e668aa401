/- PendDoes: both tables side by side; whole tables in regions walked by flow2. -/
import Derived.Test.YtbhiddppohbjhaaRDue
namespace Go.Proofs.Ytbhiddppohbjhaa
open Go Go.RowKit Go.Maps Go.WideShapes Go.ChangeMaps Go.WideMaps Go.MapKept
set_option maxRecDepth 100000
theorem gives_load40 {K : World → Prop} {a : Act} {o : Oper} {x : Operand} (ho : o.op = .load 40 x) {w : World} {b : Nat} (hx : a.eval x = .pointer (some ⟨b, 0, none⟩)) {T : Array Value} (hT : T.size = 175) (hb : w.heap[b]? = some (.cells T 40)) (hK : K w) :
    givesR Try.prog K (.agg T) ((execOp a.eval o).run Try.prog w) := by
  unfold execOp
  simp only [ho, hx, Instr.loadAt, Instr.sureAddr, Sem.run_bind, Sem.run_pure, Result.andThen_ok, load_row40 hT hb]
  exact ⟨rfl, hK⟩
theorem gives_load44 {K : World → Prop} {a : Act} {o : Oper} {x : Operand} (ho : o.op = .load 44 x) {w : World} {b q : Nat} (hx : a.eval x = .pointer (some ⟨b, q, none⟩)) {s : St} (hs : s.ok) (hb : w.rangeAt b q s.cells) (hK : K w) :
    givesR Try.prog K (.agg s.arr) ((execOp a.eval o).run Try.prog w) := by
  unfold execOp
  simp only [ho, hx, Instr.loadAt, Instr.sureAddr, Sem.run_bind, Sem.run_pure, Result.andThen_ok, run_loadVar_mid w b q 44 s.cells _ hb Try.underlying44 rfl (by rw [St.len hs]; exact size44)]
  exact ⟨rfl, hK⟩
theorem turn_alloc40 {K : Value → World → Prop} {a : Act} {o : Oper} {w : World} (ho : o.op = .alloc 40) (hK : K (.pointer (some ⟨w.heap.size, 0, none⟩)) (w.alloc (.cells zT 40))) : effR Try.prog K ((execOp a.eval o).run Try.prog w) := by
  unfold execOp
  simp only [ho, Sem.run_bind, Sem.run_pure, Result.andThen_ok, alloc40]
  exact hK
theorem turn_store40 {K : Value → World → Prop} {a : Act} {o : Oper} {w : World} {x y : Operand} (ho : o.op = .store 40 x y) {b : Nat} {T C : Array Value} (hT : T.size = 175) (h1 : T.all (·.oneCell') = true) (hC : C.size = 175) (hx : a.eval x = .pointer (some ⟨b, 0, none⟩)) (hy : a.eval y = .agg T) (hb : w.heap[b]? = some (.cells C 40))
    (hK : ∀ w', w'.heap[b]? = some (.cells T 40) → w.grownBy w' (some b) → K undef w') : effR Try.prog K ((execOp a.eval o).run Try.prog w) := by
  have hs : T.size = C.size := by rw [hT, hC]
  unfold execOp
  simp only [ho, hx, hy, Instr.storeAt, Instr.sureAddr, Sem.run_bind, Sem.run_pure, Result.andThen_ok, run_storeVar_mid w b 0 40 T (there_all40 hb hs) (by rw [hT]; exact size40) h1]
  exact hK _ (setCells_all40 hb hs) (setCells_grown _ _ _ _)
/-- the program's table M, the document's R -/
structure Dz (W w : World) (g mb b8 : Nat) (M R : Tb) (hR : Tok R) : Prop where
  pa : PA w W.heap.size g mb M
  tb : w.heap[b8]? = some (.cells (tabA R hR) 40)
  bl : Below W.heap.size W w
  ge : W.heap.size ≤ b8
section
variable {W w w' : World} {g mb b8 : Nat} {M R M' R' : Tb} {hR : Tok R} {hR' : Tok R'}
theorem Dz.below (x : Dz W w g mb b8 M R hR) (hb : Below w.heap.size w w') : Dz W w' g mb b8 M R hR :=
  ⟨x.pa.below hb, (hb.block _ (heap_lt x.tb)).trans x.tb, x.bl.trans (hb.mono x.bl.size), x.ge⟩
theorem Dz.store (x : Dz W w g mb b8 M R hR) (hb : w'.heap[b8]? = some (.cells (tabA R' hR') 40)) (hg : w.grownBy w' (some b8)) : Dz W w' g mb b8 M R' hR' := by
  have h1 : g ≠ b8 := by
    rintro rfl
    have := x.pa.obj.symm.trans x.tb
    cases this
  have h2 : mb ≠ b8 := by
    rintro rfl
    obtain ⟨es, ck, hm⟩ := x.pa.map.blk
    have := hm.symm.trans x.tb
    cases this
  exact ⟨⟨(hg.block g x.pa.glt (by simpa using h1)).trans x.pa.obj, x.pa.map.of (hg.block mb x.pa.map.lt (by simpa using h2)), x.pa.g0, x.pa.m0, x.pa.ok⟩, hb, x.bl.grown hg x.bl.size (fun j hj => by cases hj; exact x.ge), x.ge⟩
theorem Dz.did (x : Dz W w g mb b8 M R hR) (hp : PA w' W.heap.size g mb M') (hg : w.grownBy w' (some mb)) : Dz W w' g mb b8 M' R hR := by
  have h2 : b8 ≠ mb := by
    rintro rfl
    obtain ⟨es, ck, hm⟩ := x.pa.map.blk
    have := hm.symm.trans x.tb
    cases this
  exact ⟨hp, (hg.block b8 (heap_lt x.tb) (by simpa using h2)).trans x.tb, x.bl.grown hg x.bl.size (fun j hj => by cases hj; exact x.pa.m0), x.ge⟩
/-- what every operation of the drawn regions may lean on -/
structure SD (W : World) (b8 : Nat) (R : Tb) (hR : Tok R) (w : World) : Prop where
  tb : w.heap[b8]? = some (.cells (tabA R hR) 40)
  bl : Below W.heap.size W w
theorem SD.below (x : SD W b8 R hR w) (hb : Below w.heap.size w w') : SD W b8 R hR w' := ⟨(hb.block _ (heap_lt x.tb)).trans x.tb, x.bl.trans (hb.mono x.bl.size)⟩
theorem Dz.sd (x : Dz W w g mb b8 M R hR) : SD W b8 R hR w := ⟨x.tb, x.bl⟩
end
end Go.Proofs.Ytbhiddppohbjhaa
