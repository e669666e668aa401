/- pend.Table: the map of calls; what it holds. -/
import Derived.Test.YtbhiddppohbjhaaObj
namespace Go.Proofs.Ytbhiddppohbjhaa
open Go Go.RowKit Go.Maps Go.WideShapes Go.ChangeMaps Go.WideMaps Go.MapKept

def heldR : Value → Option (DataW Value × List MemPlace) := fun v => some (.held v, [])
theorem law3 : Keyed Try.prog 3 := int_keyed Try.underlying3
def kl (k : Int) : Lit := .int .i64 k
def kok (k : Int) : Prop := (Lit.int .i64 k).wf = true
theorem key_of {k : Int} (h : kok k) : keyOf Try.prog 3 (.int .i64 k) = some (kl k) := keyOf_int_mk Try.underlying3 h
theorem key_lit (k : Int) : WideAt.IsKeyLit (kl k) := by trivial
theorem kl_inj {a b : Int} (h : kl a = kl b) : a = b := by unfold kl at h; cases h; rfl
theorem kok_of {k : Int} (h : 1 ≤ k ∧ k ≤ 4) : kok k := by
  unfold kok
  simp only [Lit.wf, Bool.and_eq_true, decide_eq_true_eq]
  exact ⟨Int.le_trans (by decide) h.1, Int.le_trans h.2 (by decide)⟩

/-- of each client a call, or none -/
abbrev Tb := Int → Option Pd
def upd (M : Tb) (k : Int) (v : Option Pd) : Tb := fun j => if j = k then v else M j
theorem upd_same (M : Tb) (k : Int) (v : Option Pd) : upd M k v k = v := if_pos rfl
theorem upd_other (M : Tb) {k j : Int} (v : Option Pd) (h : ¬ j = k) : upd M k v j = M j := if_neg h
def vOf (o : Option Pd) : Pd := o.getD zP
def one (o : Option Pd) : Nat := if o.isSome then 1 else 0
def cnt (M : Tb) : Nat := one (M 1) + one (M 2) + one (M 3) + one (M 4)
theorem cnt_put (M : Tb) {k : Int} (h : 1 ≤ k ∧ k ≤ 4) (p : Pd) : cnt (upd M k (some p)) = if (M k).isSome then cnt M else cnt M + 1 := by
  have h4 : k = 1 ∨ k = 2 ∨ k = 3 ∨ k = 4 := by omega
  rcases h4 with rfl | rfl | rfl | rfl <;> cases hm : M _ <;> simp [cnt, upd, one, hm] <;> omega
theorem cnt_del (M : Tb) {k : Int} (h : 1 ≤ k ∧ k ≤ 4) : cnt (upd M k none) + one (M k) = cnt M := by
  have h4 : k = 1 ∨ k = 2 ∨ k = 3 ∨ k = 4 := by omega
  rcases h4 with rfl | rfl | rfl | rfl <;> simp [cnt, upd, one] <;> omega
theorem one_le (o : Option Pd) : one o ≤ 1 := by unfold one; split <;> omega
theorem cnt_le (M : Tb) : cnt M ≤ 4 := by
  have := one_le (M 1); have := one_le (M 2); have := one_le (M 3); have := one_le (M 4)
  unfold cnt; omega

/-- what may be in a table -/
structure Tok (M : Tb) : Prop where
  lim : ∀ k p, M k = some p → 1 ≤ k ∧ k ≤ 4
  ok : ∀ k p, M k = some p → p.ok
  me : ∀ k p, M k = some p → p.cl = k
  un : ∀ j k p q, M j = some p → M k = some q → p.up = q.up → j = k
theorem Tok.none {M : Tb} (h : Tok M) {k : Int} (hk : ¬ (1 ≤ k ∧ k ≤ 4)) : M k = none := by
  cases hm : M k with
  | none => rfl
  | some p => exact absurd (h.lim k p hm) hk
theorem Tok.vok {M : Tb} (h : Tok M) (k : Int) : (vOf (M k)).ok := by
  cases hm : M k with
  | none => exact zP_ok
  | some p => exact h.ok k p hm
theorem tok_nil : Tok fun _ => none := ⟨by simp, by simp, by simp, by simp⟩

/-- the map at block mb holds the calls M -/
def MapP (w : World) (mb : Nat) (M : Tb) : Prop := ∃ (D : DataW Value), w.ownsMap Try.prog 3 heldR mb 4 D ∧ (∀ k, has D (kl k) = (M k).isSome) ∧ (∀ k p, M k = some p → ∀ z, D.atKey (kl k) z = .held (.agg p.arr)) ∧ size D = cnt M
theorem own_tight {w : World} {mb n m : Nat} {D : DataW Value} (h : w.ownsMap Try.prog 3 heldR mb n D) (hm : size D ≤ m) : w.ownsMap Try.prog 3 heldR mb m D := by
  obtain ⟨es, ck, hb, F, hs, rfl⟩ := h
  refine ⟨es, ck, hb, F, ?_, rfl⟩
  have e1 : size (DataW.map ((es.toList.map (Go.WideElems.rg Try.prog 3 heldR)).foldr DataW.insert [])) = es.size := by simp [size, length_sorted]
  omega
section
variable {w : World} {mb : Nat} {M : Tb}
theorem MapP.of (h : MapP w mb M) {w' : World} (hb : w'.heap[mb]? = w.heap[mb]?) : MapP w' mb M := by
  obtain ⟨D, ⟨es, ck, hh, r⟩, hD⟩ := h
  exact ⟨D, ⟨es, ck, hb.trans hh, r⟩, hD⟩
theorem MapP.lt (h : MapP w mb M) : mb < w.heap.size := by
  obtain ⟨D, hh, _⟩ := h
  exact hh.lt
theorem MapP.blk (h : MapP w mb M) : ∃ es ck, w.heap[mb]? = some (.map es ck) := by
  obtain ⟨D, ⟨es, ck, hh, _⟩, _⟩ := h
  exact ⟨es, ck, hh⟩
/-- v, is := m[k] -/
theorem MapP.look (h : MapP w mb M) {k : Int} (hk : kok k) : (Instr.lookup 58 (.map (some mb)) (.int .i64 k) true).run Try.prog w = .ok (.tuple #[.agg (vOf (M k)).arr, .bool (M k).isSome]) w := by
  obtain ⟨D, hown, hh, ha, _⟩ := h
  obtain ⟨v, ps, hrun, hv⟩ := hown.look_ok law3 Try.underlying58 (zero37 w) (zd := .held (.agg zP.arr)) (zp := []) rfl (key_of hk)
  have e : v = .agg (vOf (M k)).arr := by
    simp only [heldR, Option.some.injEq, Prod.mk.injEq] at hv
    cases hm : M k with
    | none =>
      rw [atKey_of_not_has (by rw [hh, hm]; rfl)] at hv
      injection hv.1
    | some p =>
      rw [ha k p hm] at hv
      injection hv.1
  rw [hrun, e, hh]
theorem MapP.len (h : MapP w mb M) (ty : TypeId) : (Builtin.len_ #[58] ty #[.map (some mb)]).run Try.prog w = .ok (.int .i64 (cnt M)) w := by
  obtain ⟨D, hown, _, _, hs⟩ := h
  rw [hown.len Try.underlying58, hs]
/-- m[k] = p -/
theorem MapP.put (h : MapP w mb M) {k : Int} (hk : 1 ≤ k ∧ k ≤ 4) (p : Pd) :
    ∃ w', (Instr.mapUpdate 58 (.map (some mb)) (.int .i64 k) (.agg p.arr)).run Try.prog w = .ok () w' ∧ MapP w' mb (upd M k (some p)) ∧ w.mapTurned w' mb := by
  obtain ⟨D, hown, hh, ha, hs⟩ := h
  obtain ⟨w', hrun, hown', hturn⟩ := hown.store law3 Try.underlying58 (by unfold maxLen; omega) (val := .agg p.arr) (key_of (kok_of hk)) (d := .held (.agg p.arr)) (ps := []) rfl
  have hsz : size (D.put (kl k) (.held (.agg p.arr))) = cnt (upd M k (some p)) := by rw [size_put (hown.tidy law3), hh, hs, cnt_put M hk]
  refine ⟨w', hrun, ⟨_, own_tight hown' (by rw [hsz]; exact cnt_le _), fun j => ?_, fun j q hq z => ?_, hsz⟩, hturn⟩
  · by_cases hj : j = k
    · subst hj
      rw [upd_same, has_put_same hown.isMap (key_lit _)]; rfl
    · rw [upd_other _ _ hj, has_put_other (fun e => hj (kl_inj e)), hh]
  · by_cases hj : j = k
    · subst hj
      rw [upd_same] at hq
      cases hq
      rw [atKey_put_same hown.isMap (key_lit _)]
    · rw [upd_other _ _ hj] at hq
      rw [atKey_put_other (fun e => hj (kl_inj e)), ha j q hq]
/-- delete(m, k) -/
theorem MapP.del (h : MapP w mb M) {k : Int} (hk : 1 ≤ k ∧ k ≤ 4) (ty : TypeId) :
    ∃ w', (Builtin.delete_ #[58, 3] ty #[.map (some mb), .int .i64 k]).run Try.prog w = .ok (.tuple #[]) w' ∧ MapP w' mb (upd M k none) ∧ w.mapTurned w' mb := by
  obtain ⟨D, hown, hh, ha, hs⟩ := h
  obtain ⟨w', hrun, hown', hturn⟩ := hown.drop law3 Try.underlying58 (key_of (kok_of hk)) ty
  have hsz : size (D.del (kl k)) = cnt (upd M k none) := by
    have h1 := size_del (hown.tidy law3) (k := kl k)
    have h2 := cnt_del M hk
    rw [hh, hs] at h1
    unfold one at h2
    omega
  refine ⟨w', hrun, ⟨_, own_tight hown' (by rw [hsz]; exact cnt_le _), fun j => ?_, fun j q hq z => ?_, hsz⟩, hturn⟩
  · by_cases hj : j = k
    · subst hj
      rw [upd_same, has_del_same]; rfl
    · rw [upd_other _ _ hj, has_del_other (fun e => hj (kl_inj e)), hh]
  · by_cases hj : j = k
    · subst hj
      rw [upd_same] at hq
      cases hq
    · rw [upd_other _ _ hj] at hq
      rw [atKey_del_other (fun e => hj (kl_inj e)), ha j q hq]
end
/-- a table at block g, its map at block mb -/
structure PA (w : World) (B g mb : Nat) (M : Tb) : Prop where
  obj : w.heap[g]? = some (.cells #[.map (some mb)] 60)
  map : MapP w mb M
  g0 : B ≤ g
  m0 : B ≤ mb
  ok : Tok M
section
variable {w : World} {B g mb : Nat} {M : Tb}
theorem PA.cc (h : PA w B g mb M) : w.cell? ⟨g, 0, none⟩ = some (.map (some mb)) := by rw [row_cell h.obj]; rfl
theorem PA.glt (h : PA w B g mb M) : g < w.heap.size := heap_lt h.obj
theorem PA.gm (h : PA w B g mb M) : g ≠ mb := by
  obtain ⟨es, ck, hb⟩ := h.map.blk
  rintro rfl
  rw [h.obj] at hb; cases hb
theorem PA.below (h : PA w B g mb M) {w' : World} (hb : Below w.heap.size w w') : PA w' B g mb M :=
  ⟨(hb.block g h.glt).trans h.obj, h.map.of (hb.block mb h.map.lt), h.g0, h.m0, h.ok⟩
/-- behind a change of the map alone -/
theorem PA.turn (h : PA w B g mb M) {w' : World} {M' : Tb} (hm : MapP w' mb M') (hg : w.grownBy w' (some mb)) (hok : Tok M') : PA w' B g mb M' :=
  ⟨(hg.block g h.glt (by have := h.gm; simpa using this)).trans h.obj, hm, h.g0, h.m0, hok⟩
end
theorem new_any (w : World) : Calls Try.prog 8 #[] w fun e w' => ∃ g mb, e = .returned (.pointer (some ⟨g, 0, none⟩)) ∧ Below w.heap.size w w' ∧ PA w' w.heap.size g mb fun _ => none := by
  have hmm := @run_makeMap Try.prog
  go_enter Try.func8, Try.ntmps8
  go_wp2
  go_ret
  refine ⟨w.heap.size + 1, w.heap.size, rfl, by go_grown, ⟨?_, ⟨.map [], ?_, fun k => rfl, by simp, rfl⟩, by omega, Nat.le_refl _, tok_nil⟩⟩
  · show ((w.heap.push _).push _)[w.heap.size + 1]? = _
    rw [Array.getElem?_push, if_pos (by simp)]
  · have := World.ownsMap_made w Try.prog 3 heldR
    obtain ⟨es, ck, hb, F, hs, r⟩ := this
    exact ⟨es, ck, (alloc_old _ _ _ (by rw [alloc_size]; omega)).trans hb, F, by omega, r⟩
/-! ### made -/
theorem made_nil (w : World) : Calls Try.prog 27 #[.pointer none] w fun e w' => e = .returned (.bool false) ∧ w = w' := by
  go_enter Try.func27, Try.ntmps27
  go_wp2
  go_ret
  exact ⟨rfl, rfl⟩
theorem made_yes {w : World} {B g mb : Nat} {M : Tb} (h : PA w B g mb M) : Calls Try.prog 27 #[.pointer (some ⟨g, 0, none⟩)] w fun e w' => e = .returned (.bool true) ∧ w = w' := by
  have c0 := h.cc
  have hn := run_neq_map_nil (P := Try.prog) w 58 3 37 (some mb) Try.underlying58
  clear h
  go_enter Try.func27, Try.ntmps27
  go_wp2
  go_ret
  exact ⟨rfl, rfl⟩
end Go.Proofs.Ytbhiddppohbjhaa
