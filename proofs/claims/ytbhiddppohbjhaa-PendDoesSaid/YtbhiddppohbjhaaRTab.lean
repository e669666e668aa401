/- posthouseref26.Table: 175 cells, never taken apart: what they hold, what a store makes of them. -/
import Derived.Test.YtbhiddppohbjhaaDue
namespace Go.Proofs.Ytbhiddppohbjhaa
open Go Go.RowKit Go.Maps Go.WideShapes Go.ChangeMaps Go.WideMaps Go.MapKept
set_option maxRecDepth 100000
/-- rows of 34 cells behind others: one of them stored anew -/
theorem overl_row {pre : List Value} {L : List Pk} {c : Nat} (hc : c < L.length) (p : Pk) :
    overl (pre ++ cellsP L).toArray (pre.length + c * 34) (encP p) = (pre ++ cellsP (L.set c p)).toArray := by
  have hm : c * 34 + 34 ≤ L.length * 34 := by have := Nat.mul_le_mul_right 34 (show c + 1 ≤ L.length from hc); rw [Nat.add_mul] at this; omega
  have hsz : (pre ++ cellsP L).toArray.size = pre.length + L.length * 34 := by simp [cellsP_len]
  apply Array.ext_getElem?
  intro j
  by_cases hin : pre.length + c * 34 ≤ j ∧ j < pre.length + c * 34 + 34
  · obtain ⟨t, rfl⟩ : ∃ t, j = pre.length + c * 34 + t := ⟨j - (pre.length + c * 34), by omega⟩
    have ht : t < 34 := by omega
    rw [overl_in _ _ _ _ (by rw [encP_len]; exact ht) (by rw [hsz, encP_len]; omega)]
    rw [List.getElem?_toArray, List.getElem?_append_right (by omega), show pre.length + c * 34 + t - pre.length = c * 34 + t by omega, cellsP_get _ _ (by rw [List.length_set]; omega), show (c * 34 + t) / 34 = c by omega, show (c * 34 + t) % 34 = t by omega]
    have hl : t < (encP p).length := by rw [encP_len]; exact ht
    have e : (L.set c p).toArray[c]! = p := by rw [getElem!_pos _ c (by simpa using hc)]; simp
    rw [e, getElem!_pos _ t hl, List.getElem?_eq_getElem hl]
  · rw [overl_out _ _ _ _ (by rw [encP_len]; omega), List.getElem?_toArray, List.getElem?_toArray]
    by_cases hp : j < pre.length
    · rw [List.getElem?_append_left hp, List.getElem?_append_left hp]
    · obtain ⟨t, rfl⟩ : ∃ t, j = pre.length + t := ⟨j - pre.length, by omega⟩
      rw [List.getElem?_append_right (by omega), List.getElem?_append_right (by omega), show pre.length + t - pre.length = t by omega]
      by_cases ht : t < L.length * 34
      · rw [cellsP_get _ _ ht, cellsP_get _ _ (by rw [List.length_set]; exact ht)]
        have hne : t / 34 ≠ c := fun e => by omega
        have hlt : t / 34 < L.length := by omega
        have e : (L.set c p).toArray[t / 34]! = L.toArray[t / 34]! := by
          rw [getElem!_pos _ _ (by simpa using hlt), getElem!_pos _ _ (by simpa using hlt)]
          simp [List.getElem_set_ne (fun h => hne h.symm)]
        rw [e]
      · rw [List.getElem?_eq_none (by rw [cellsP_len]; omega), List.getElem?_eq_none (by rw [cellsP_len, List.length_set]; omega)]
/-- the document's table -/
def tabL (M : Tb) (h : Tok M) : List Pk := [⟨zP, zP_ok⟩, ⟨vOf (M 1), h.vok 1⟩, ⟨vOf (M 2), h.vok 2⟩, ⟨vOf (M 3), h.vok 3⟩, ⟨vOf (M 4), h.vok 4⟩]
def tabI (M : Tb) : List Value := [.bool false, .bool (M 1).isSome, .bool (M 2).isSome, .bool (M 3).isSome, .bool (M 4).isSome]
def tabC (M : Tb) (h : Tok M) : List Value := tabI M ++ cellsP (tabL M h)
def tabA (M : Tb) (h : Tok M) : Array Value := (tabC M h).toArray
theorem tab_len (M : Tb) (h : Tok M) : (tabC M h).length = 175 := by rw [tabC, List.length_append, cellsP_len]; rfl
theorem tab_size (M : Tb) (h : Tok M) : (tabA M h).size = 175 := by unfold tabA; simpa using tab_len M h
theorem tab_one (M : Tb) (h : Tok M) : ∀ v ∈ tabC M h, v.oneCell' = true := by
  intro v hv
  rcases List.mem_append.1 hv with hv | hv
  · simp only [tabI, List.mem_cons, List.not_mem_nil, or_false] at hv
    rcases hv with e | e | e | e | e <;> (subst e; rfl)
  · exact cellsP_one _ v hv
theorem tab_all (M : Tb) (h : Tok M) : (tabA M h).all (·.oneCell') = true := all_oneCell_toArray (tab_one M h)
theorem size40 : (Try.prog.info? 40).map (·.size) = some 175 := by kernel_rfl
theorem four {c : Nat} (h1 : 1 ≤ c) (h4 : c ≤ 4) : c = 1 ∨ c = 2 ∨ c = 3 ∨ c = 4 := by omega
theorem tabL_at {M : Tb} {h : Tok M} {c : Nat} (h1 : 1 ≤ c) (h4 : c ≤ 4) : (tabL M h)[c]? = some ⟨vOf (M c), h.vok c⟩ := by
  rcases four h1 h4 with rfl | rfl | rfl | rfl <;> rfl
theorem tabL_upd {M : Tb} {h : Tok M} {c : Nat} (h1 : 1 ≤ c) (h4 : c ≤ 4) {o : Option Pd} (h' : Tok (upd M c o)) (ho : (vOf o).ok) : tabL (upd M c o) h' = (tabL M h).set c ⟨vOf o, ho⟩ := by
  rcases four h1 h4 with rfl | rfl | rfl | rfl <;> simp [tabL, upd]
theorem tabI_upd {M : Tb} {c : Nat} (h1 : 1 ≤ c) (h4 : c ≤ 4) (o : Option Pd) : tabI (upd M c o) = (tabI M).set c (.bool o.isSome) := by
  rcases four h1 h4 with rfl | rfl | rfl | rfl <;> simp [tabI, upd]
/-- a client's place filled, or laid bare -/
theorem tab_upd {M : Tb} {h : Tok M} {c : Nat} (h1 : 1 ≤ c) (h4 : c ≤ 4) {o : Option Pd} (h' : Tok (upd M c o)) (ho : (vOf o).ok) :
    overl ((tabA M h).setIfInBounds c (.bool o.isSome)) (5 + c * 34) (vOf o).cells = tabA (upd M c o) h' := by
  have e1 : (tabA M h).setIfInBounds c (.bool o.isSome) = (tabI (upd M c o) ++ cellsP (tabL M h)).toArray := by
    rw [tabI_upd h1 h4]
    unfold tabA tabC
    rw [List.setIfInBounds_toArray, List.set_append_left _ _ (by show c < 5; omega)]
  rw [e1]
  have e2 := overl_row (pre := tabI (upd M c o)) (L := tabL M h) (c := c) (by show c < 5; omega) ⟨vOf o, ho⟩
  unfold tabA tabC
  rw [tabL_upd h1 h4 h' ho]
  exact e2
/-- a call that is there changed -/
theorem tab_turn {M : Tb} {h : Tok M} {c : Nat} (h1 : 1 ≤ c) (h4 : c ≤ 4) {p q : Pd} (hp : M c = some p) (h' : Tok (upd M c (some q))) (hq : q.ok) :
    overl (tabA M h) (5 + c * 34) q.cells = tabA (upd M c (some q)) h' := by
  rw [← tab_upd h1 h4 h' (show (vOf (some q)).ok from hq)]
  congr 1
  have e : (tabA M h)[c]? = some (.bool true) := by
    have hb : (M c).isSome = true := by rw [hp]; rfl
    rcases four h1 h4 with rfl | rfl | rfl | rfl <;> (show some (Value.bool (M _).isSome) = _; first | rw [hb] | (have hb := hb; simp at hb; simp [hb]))
  apply Array.ext_getElem?
  intro j
  by_cases hj : j = c
  · subst hj
    rw [e, Array.getElem?_setIfInBounds_self_of_lt (by rw [tab_size]; omega)]
    rfl
  · rw [Array.getElem?_setIfInBounds_ne (fun e => hj e.symm)]
section
variable {w : World} {b : Nat} {M : Tb} {h : Tok M}
theorem tb_is (hb : w.heap[b]? = some (.cells (tabA M h) 40)) {c : Nat} (h1 : 1 ≤ c) (h4 : c ≤ 4) : w.cell? ⟨b, c, none⟩ = some (.bool (M c).isSome) := by
  rw [row_cell hb]
  rcases four h1 h4 with rfl | rfl | rfl | rfl <;> rfl
theorem tb_rng (hb : w.heap[b]? = some (.cells (tabA M h) 40)) {c : Nat} (h1 : 1 ≤ c) (h4 : c ≤ 4) : w.rangeAt b (5 + c * 34) (vOf (M c)).cells := fun j v hj => by
  rw [row_cell hb]
  have hj34 : j < 34 := by have := (List.getElem?_eq_some_iff.1 hj).1; rw [Pd.len (h.vok c)] at this; exact this
  have hL : (tabL M h).length = 5 := rfl
  show (tabC M h).toArray[5 + c * 34 + j]? = some v
  unfold tabC
  rw [List.getElem?_toArray, List.getElem?_append_right (by show 5 ≤ _; omega), show 5 + c * 34 + j - (tabI M).length = c * 34 + j by show 5 + c * 34 + j - 5 = _; omega, cellsP_get _ _ (by rw [hL]; omega), show (c * 34 + j) / 34 = c by omega, show (c * 34 + j) % 34 = j by omega]
  have e : (tabL M h).toArray[c]! = ⟨vOf (M c), h.vok c⟩ := by
    have := tabL_at (M := M) (h := h) h1 h4
    rw [getElem!_pos _ c (by show c < 5; omega)]
    have h2 : (tabL M h)[c]'(by show c < 5; omega) = ⟨vOf (M c), h.vok c⟩ := by
      rw [List.getElem_eq_iff]; exact this
    simpa using h2
  rw [e]
  have hl : j < (encP ⟨vOf (M c), h.vok c⟩).length := by rw [encP_len]; exact hj34
  rw [getElem!_pos _ j hl, ← hj]
  exact (List.getElem?_eq_getElem hl).symm
theorem tb_up (hb : w.heap[b]? = some (.cells (tabA M h) 40)) {c : Nat} (h1 : 1 ≤ c) (h4 : c ≤ 4) : w.cell? ⟨b, 5 + c * 34 + 7, none⟩ = some (.int .i64 (vOf (M c)).up) := tb_rng hb h1 h4 7 _ rfl
theorem tb_du (hb : w.heap[b]? = some (.cells (tabA M h) 40)) {c : Nat} (h1 : 1 ≤ c) (h4 : c ≤ 4) : w.cell? ⟨b, 5 + c * 34 + 9, none⟩ = some (.int .i64 (vOf (M c)).du) := tb_rng hb h1 h4 9 _ rfl
end
end Go.Proofs.Ytbhiddppohbjhaa
