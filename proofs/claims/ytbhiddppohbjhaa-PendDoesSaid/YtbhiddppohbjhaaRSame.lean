/- posthouseref26.Same: two lists that are one. -/
import Derived.Test.YtbhiddppohbjhaaRDo2
import Derived.Test.YtbhiddppohbjhaaUnLaw
namespace Go.Proofs.Ytbhiddppohbjhaa
open Go Go.RowKit Go.Maps Go.WideShapes Go.ChangeMaps Go.WideMaps Go.MapKept
set_option maxRecDepth 100000
theorem gives_mid {K : World → Prop} {a : Act} {o : Oper} {x : Operand} (ho : o.op = .load 37 x) {w : World} {b q : Nat} (hx : a.eval x = .pointer (some ⟨b, q, none⟩)) {p : Pd} (hp : p.ok) (hb : w.rangeAt b q p.cells) (hK : K w) :
    givesR Try.prog K (.agg p.arr) ((execOp a.eval o).run Try.prog w) := by
  unfold execOp
  simp only [ho, hx, Instr.loadAt, Instr.sureAddr, Sem.run_bind, Sem.run_pure, Result.andThen_ok, run_loadVar_mid w b q 37 p.cells _ hb Try.underlying37 rfl (by rw [Pd.len hp]; exact size37)]
  exact ⟨rfl, hK⟩
theorem gives_neq {K : World → Prop} {a : Act} {o : Oper} {x y : Operand} {t : TypeId} (ho : o.op = .binOp .neq 37 x y t) {w : World} {p : Pd} (hp : p.ok) (hx : a.eval x = .agg p.arr) (hy : a.eval y = .agg p.arr) (hK : K w) :
    givesR Try.prog K (.bool false) ((execOp a.eval o).run Try.prog w) := by
  unfold execOp
  simp only [ho, hx, hy, Sem.run_bind, Sem.run_pure, Result.andThen_ok, run_eqGuard_agg (hm := noGuard), run_neq_struct, equal_self hp, Bool.not_true]
  exact ⟨rfl, hK⟩
structure SM (w : World) (b q b' q' : Nat) (p : Pd) (w' : World) : Prop where
  r1 : w'.rangeAt b q p.cells
  r2 : w'.rangeAt b' q' p.cells
  bl : Below w.heap.size w w'
theorem row_range {w : World} {B b off cap : Nat} {L : List Pk} (h : Sl w B 37 34 (.slice (some ⟨b, off, none⟩) L.length cap) L.length (cellsP L)) {k : Nat} (hk : k < L.length) : w.rangeAt b (off + k * 34) L[k].1.cells := by
  intro j v hj
  have hj34 : j < 34 := by have := (List.getElem?_eq_some_iff.1 hj).1; rw [Pd.len L[k].2] at this; exact this
  rw [Nat.add_assoc]
  refine h.cell ?_
  rw [cellsP_get L _ (by have := Nat.mul_le_mul_right 34 (show k + 1 ≤ L.length from hk); rw [Nat.add_mul] at this; omega), show (k * 34 + j) / 34 = k by omega, show (k * 34 + j) % 34 = j by omega]
  have hl : j < (encP L[k]).length := by rw [encP_len]; exact hj34
  have e : L.toArray[k]! = L[k] := by rw [getElem!_pos _ k (by simpa using hk)]; simp
  rw [e, getElem!_pos _ j hl, ← hj]
  exact (List.getElem?_eq_getElem hl).symm
set_option maxHeartbeats 8000000 in
theorem rsame_any {B B' : Nat} (A A' : Option Addr) (cap cap' : Nat) (L : List Pk) (w : World) (h : Sl w B 37 34 (.slice A L.length cap) L.length (cellsP L)) (h' : Sl w B' 37 34 (.slice A' L.length cap') L.length (cellsP L)) (hl : L.length ≤ 1000000) :
    Calls Try.prog 13 #[.slice A L.length cap, .slice A' L.length cap'] w fun e w' => e = .returned (.bool true) ∧ Below w.heap.size w w' := by
  have H1 := Lib.hid h
  have H2 := Lib.hid h'
  clear h h'
  go_enter Try.func13, Try.ntmps13
  go_wp2
  go_loopw [5] (fun i wr => ∃ k : Nat, k ≤ L.length ∧ i = .int .i64 k ∧ Below w.heap.size w wr) (fun i _ => L.length - (intOf i).toNat)
  case atStart => exact ⟨0, by omega, rfl, Below.refl _ _⟩
  case round =>
    obtain ⟨k, hk, rfl, hb⟩ := hrel
    by_cases hlt : k < L.length
    · obtain ⟨b, off, cp, he, _, _⟩ := H1.out.shape (by omega)
      cases he
      obtain ⟨b', off', cp', he, _, _⟩ := H2.out.shape (by omega)
      cases he
      have hs : SM w b (off + k * 34) b' (off' + k * 34) L[k].1 wr.drew := ⟨row_range (H1.out.below hb.drew) hlt, row_range (H2.out.below hb.drew) hlt, hb.drew⟩
      have hok := L[k].2
      generalize L[k].1 = p at *
      have HOK := Lib.hid hok
      have HB := Lib.hid hb
      clear hb hok
      go_wp2_with fail
      refine wp_region_flow2_lit [(0, false), (1, false), (2, false), (3, false), (4, false), (5, false), (6, false), (7, false), (8, false)] (SM w b (off + k * 34) b' (off' + k * 34) p) (by kernel_rfl) (by kernel_rfl) (by kernel_rfl) hs ?_
      clear hs
      repeat (first | (refine' flow2_pass (o := _) rfl _ _; (focus rfl); simp only [Act.put, List.setIfInBounds_toArray, List.set_cons_zero, List.set_cons_succ]) | (refine' flow2_take (v := _) (o := _) rfl _ _ _; rotate_left; (focus rfl); (focus (intro wS hS; have hE := Ext.refl wS; (skip); go_simp; try (with_reducible (first | exact ⟨rfl, hS, hE⟩ | rfl)); done)); simp only [Act.put, List.setIfInBounds_toArray, List.set_cons_zero, List.set_cons_succ]))
      (refine flow2_take (v := .agg p.arr) (o := _) rfl rfl (fun wS hS => gives_mid rfl rfl HOK.out hS.r1 ⟨hS, Ext.refl wS⟩) ?_; simp only [Act.put, List.setIfInBounds_toArray, List.set_cons_zero, List.set_cons_succ])
      repeat (first | (refine' flow2_pass (o := _) rfl _ _; (focus rfl); simp only [Act.put, List.setIfInBounds_toArray, List.set_cons_zero, List.set_cons_succ]) | (refine' flow2_take (v := _) (o := _) rfl _ _ _; rotate_left; (focus rfl); (focus (intro wS hS; have hE := Ext.refl wS; (skip); go_simp; try (with_reducible (first | exact ⟨rfl, hS, hE⟩ | rfl)); done)); simp only [Act.put, List.setIfInBounds_toArray, List.set_cons_zero, List.set_cons_succ]))
      (refine flow2_take (v := .agg p.arr) (o := _) rfl rfl (fun wS hS => gives_mid rfl rfl HOK.out hS.r2 ⟨hS, Ext.refl wS⟩) ?_; simp only [Act.put, List.setIfInBounds_toArray, List.set_cons_zero, List.set_cons_succ])
      (refine flow2_take (v := .bool false) (o := _) rfl rfl (fun wS hS => gives_neq rfl HOK.out rfl rfl ⟨hS, Ext.refl wS⟩) ?_; simp only [Act.put, List.setIfInBounds_toArray, List.set_cons_zero, List.set_cons_succ])
      refine flow2_nil ?_
      intro w8 hE hS
      have H8 := Lib.hid hS.bl
      clear hE hS
      go_wp2_with fail
      go_roundw
      case rel => exact ⟨k + 1, by omega, by go_num, H8.out⟩
      case measure => simp [intOf]; omega
    · have HB := Lib.hid hb
      clear hb
      go_wp2_with fail
      go_returns
      exact ⟨rfl, HB.out⟩
/-! ### the two lists of what is due are one -/
theorem due_one {M : Tb} {now : Int} {L L' : List Pk} (hM : Tok M) (h : DueL M now L) (h' : DueL M now L') : L = L' := by
  have hp : L.Perm L' := (List.perm_ext_iff_of_nodup h.nd h'.nd).2 fun p => (h.has p).trans (h'.has p).symm
  refine List.Perm.eq_of_pairwise (le := fun x y : Pk => ¬ Ahead y x) ?_ h.srt h'.srt hp
  intro x y hx hy h1 h2
  by_cases e : x.1.cl = y.1.cl
  · obtain ⟨j, a1, _⟩ := (h.has x).1 hx
    obtain ⟨k, a2, _⟩ := (h.has y).1 (hp.mem_iff.2 hy)
    have b1 := hM.me j _ a1
    have b2 := hM.me k _ a2
    have b3 : j = k := by rw [← b1, ← b2, e]
    subst b3
    rw [a1] at a2
    exact Subtype.ext (Option.some.inj a2)
  · exfalso
    unfold Ahead at h1 h2
    omega
end Go.Proofs.Ytbhiddppohbjhaa
