/- pend.Table.Due: a slice of calls sorted. -/
import Derived.Test.YtbhiddppohbjhaaSort
namespace Go.Proofs.Ytbhiddppohbjhaa
open Go Go.RowKit Go.Shelf Go.Lib Go.Sort
set_option maxRecDepth 100000
def cellsP (L : List Pk) : List Value := L.flatMap encP
theorem cellsP_cons (x : Pk) (L : List Pk) : cellsP (x :: L) = encP x ++ cellsP L := rfl
theorem cellsP_append (L M : List Pk) : cellsP (L ++ M) = cellsP L ++ cellsP M := by simp [cellsP]
theorem cellsP_len (L : List Pk) : (cellsP L).length = L.length * 34 := by
  induction L with
  | nil => rfl
  | cons x L ih => rw [cellsP_cons, List.length_append, encP_len, ih, List.length_cons]; omega
theorem cellsP_one (L : List Pk) : ∀ u ∈ cellsP L, u.oneCell' = true := by
  intro u hu
  obtain ⟨x, _, hx⟩ := List.mem_flatMap.1 hu
  exact encP_one x u hx
theorem cellsP_get : ∀ (L : List Pk) (t : Nat), t < L.length * 34 → (cellsP L)[t]? = some ((encP L.toArray[t / 34]!)[t % 34]!)
  | [], t, h => by simp at h
  | x :: L, t, h => by
    rw [cellsP_cons]
    by_cases ht : t < 34
    · rw [List.getElem?_append_left (by rw [encP_len]; exact ht), Nat.div_eq_of_lt ht, Nat.mod_eq_of_lt ht]
      have hl : t < (encP x).length := by rw [encP_len]; exact ht
      rw [List.getElem?_eq_getElem hl]
      show some (encP x)[t] = some (encP x)[t]!
      rw [getElem!_pos _ t hl]
    · obtain ⟨s, rfl⟩ : ∃ s, t = s + 34 := ⟨t - 34, by omega⟩
      rw [List.getElem?_append_right (by rw [encP_len]; omega), encP_len, Nat.add_sub_cancel, cellsP_get L s (by simp only [List.length_cons] at h; omega), Nat.add_mod_right, show (s + 34) / 34 = s / 34 + 1 by omega]
      simp
theorem flat_cells (L : List Pk) : (flatK encP 34 L.toArray).toList = cellsP L := by
  apply List.ext_getElem?
  intro t
  by_cases ht : t < L.length * 34
  · rw [cellsP_get L t ht, Array.getElem?_toList]
    have hs : t < (flatK encP 34 L.toArray).size := by simpa using ht
    rw [Array.getElem?_eq_getElem hs, ← get_flatK encP 34 L.toArray t (by simpa using ht), getElem!_pos _ t hs]
  · rw [List.getElem?_eq_none (by simp; omega), List.getElem?_eq_none (by rw [cellsP_len]; omega)]
theorem holds_of {w : World} {B b off cap : Nat} {L : List Pk} (h : Sl w B 37 34 (.slice (some ⟨b, off, none⟩) L.length cap) L.length (cellsP L)) : HoldsK encP 34 w b off L.toArray := by
  intro j hj
  refine ⟨?_, h.froz _⟩
  refine h.cell ?_
  rw [← flat_cells, Array.getElem?_toList, Array.getElem?_eq_getElem hj, id, getElem!_pos _ j hj]
theorem sorted_heap {w : World} {b off n : Nat} {cur : Array Value} {t : TypeId} {d : Array Pk} {os : Array Obj} (hb : w.heap[b]? = some (.cells cur t)) : (sortWorldK encP 34 w b off n d os).heap[b]? = some (.cells (putCells id off (flatK encP 34 d) cur) t) := by
  have hlt := heap_lt hb
  unfold sortWorldK
  rw [heap_grow_old _ _ (by rw [size_putRowK]; exact hlt)]
  show (w.heap.modify b (onCells (putCells id off (flatK encP 34 d))))[b]? = _
  simp [Array.getElem?_modify, hb, onCells]
theorem sorted_old {w : World} {b off n : Nat} {d : Array Pk} {os : Array Obj} {q : Nat} (hq : q < w.heap.size) (hne : q ≠ b) : (sortWorldK encP 34 w b off n d os).heap[q]? = w.heap[q]? := by
  unfold sortWorldK
  rw [heap_grow_old _ _ (by rw [size_putRowK]; exact hq)]
  show (w.heap.modify b (onCells (putCells id off (flatK encP 34 d))))[q]? = _
  rw [Array.getElem?_modify, if_neg (fun e => hne e.symm)]
theorem sorted_sl {w : World} {B b off cap n : Nat} {L : List Pk} {d : Array Pk} {os : Array Obj} (h : Sl w B 37 34 (.slice (some ⟨b, off, none⟩) L.length cap) L.length (cellsP L)) (hd : d.size = L.length) :
    Sl (sortWorldK encP 34 w b off n d os) B 37 34 (.slice (some ⟨b, off, none⟩) L.length cap) L.length (cellsP d.toList) := by
  refine ⟨by rw [cellsP_len]; simp [hd], ?_⟩
  rcases h.2 with ⟨h0, _⟩ | ⟨b', off', cap', cur, he, hB, hg, h1, h2, h3, hc⟩
  · cases h0
  · cases he
    have h4 : L.length * 34 ≤ cap * 34 := Nat.mul_le_mul_right _ h1
    refine .inr ⟨b, off, cap, _, rfl, hB, sorted_heap hg, h1, h2, by simp only [putCells, Array.size_mapIdx]; exact h3, fun j u hu => ?_⟩
    have hj : j < (cellsP d.toList).length := (List.getElem?_eq_some_iff.1 hu).1
    rw [cellsP_len] at hj
    have hj2 : j < d.size * 34 := by simpa using hj
    have hf : (flatK encP 34 d)[j]? = some u := by
      rw [← hu, ← flat_cells, Array.toArray_toList, Array.getElem?_toList]
    have hfs : j < (flatK encP 34 d).size := by simpa using hj2
    rw [Array.getElem?_eq_getElem hfs] at hf
    have hcs : off + j < cur.size := by omega
    simp only [putCells, Array.getElem?_mapIdx, Array.getElem?_eq_getElem hcs, Option.map_some]
    rw [if_pos ⟨by omega, by omega⟩, show off + j - off = j by omega, id, getElem!_pos _ j hfs]
    exact hf
/-- ahead of another one -/
def Ahead (x y : Pk) : Prop := x.1.du < y.1.du ∨ (x.1.du = y.1.du ∧ x.1.cl < y.1.cl)
theorem lt_iff (x y : Pk) : ltOf cfP x y = true ↔ Ahead x y := by
  unfold ltOf cfP Lib.compareInt Ahead
  rw [decide_eq_true_eq]
  by_cases h1 : x.1.du < y.1.du
  · simp [h1]
  · by_cases h2 : y.1.du < x.1.du
    · have h3 : ¬ x.1.du = y.1.du := by omega
      simp [h1, h2, h3]
    · have h3 : x.1.du = y.1.du := by omega
      by_cases h4 : x.1.cl < y.1.cl
      · simp [h3, h4]
      · by_cases h5 : y.1.cl < x.1.cl
        · simp [h3, h4, h5]
        · simp [h3, h4, h5]
theorem lt_no (x y : Pk) : ltOf cfP x y = false ↔ ¬ Ahead x y := by
  rw [← lt_iff]; simp
theorem swoP : SWO (ltOf cfP) where
  irrefl x := by rw [lt_no]; unfold Ahead; omega
  trans x y z h1 h2 := by rw [lt_iff] at *; unfold Ahead at *; omega
  ntrans x y z h1 h2 := by rw [lt_no] at *; unfold Ahead at *; omega
def Srt (L : List Pk) : Prop := L.Pairwise fun x y => ¬ Ahead y x
theorem srt_of {d : Array Pk} (h : SortedIn (ltOf cfP) 0 d.size d) : Srt d.toList := by
  unfold Srt
  rw [List.pairwise_iff_getElem]
  intro i j hi hj hij
  have hi' : i < d.size := by simpa using hi
  have hj' : j < d.size := by simpa using hj
  have := h i j (Nat.zero_le _) hij hj'
  rw [lt_no, getElem!_pos d i hi', getElem!_pos d j hj'] at this
  simpa using this
theorem hlen (n : Nat) (W : World) (h : n ≤ 12) : Calls Try.prog 34 #[.int .u64 n] W fun e w' => (∃ l : Int, e = .returned (.int .i64 l)) ∧ w' = W :=
  (Any.bits_Len (SlLaysF0.n15.bits (P := Try.prog) (ρ := sortP_ren) { sortP with }) (n : Int) W (by omega) (by omega)).mono fun _ _ ⟨he, hw⟩ => ⟨⟨_, he⟩, hw⟩
theorem sort_any {B : Nat} (b off cap : Nat) (L : List Pk) (w : World) (h : Sl w B 37 34 (.slice (some ⟨b, off, none⟩) L.length cap) L.length (cellsP L)) (h12 : L.length ≤ 12) :
    Calls Try.prog 28 #[.slice (some ⟨b, off, none⟩) L.length cap, .func (.func 29) #[] #[]] w fun e w' => e = .returned (.tuple #[]) ∧ ∃ L' : List Pk, L'.Perm L ∧ Srt L' ∧ Sl w' B 37 34 (.slice (some ⟨b, off, none⟩) L.length cap) L.length (cellsP L') ∧ w.grownBy w' (some b) := by
  have eg : ∀ args w, (callFunc 29 args).run Try.prog w = .ok (.enter 29 args) w := enters_of Try.func29 (by kernel_rfl) rfl
  have hcon := AnyQ.slices_SortFunc_small_sorted sortP 34 Try.isAgg37 Try.sizeOf37 encP encP_len encP_one cfP 29 #[] swoP b off cap L.toArray w eg (fun _ _ _ _ x y => clos_any x y _) (holds_of h) (h.lt b rfl) (by simpa using h12) hlen
  change Calls Try.prog 28 _ _ _ at hcon
  have e1 : L.toArray.size = L.length := by simp
  rw [e1] at hcon
  refine hcon.mono ?_
  rintro e w' ⟨rfl, d', n, os, hp, hs, rfl⟩
  have hds : d'.size = L.length := by have := hp.1; simpa using this
  refine ⟨rfl, d'.toList, ?_, srt_of (by rw [hds]; exact hs), sorted_sl h hds, ⟨rfl, rfl, rfl, ?_, fun q hq hne => sorted_old hq (by simpa using hne)⟩⟩
  · have h3 := hp.2.2
    have e2 : d'.extract 0 L.length = d' := by rw [← hds]; simp
    have e3 : L.toArray.extract 0 L.length = L.toArray := by rw [← e1]; simp
    rw [e2, e3] at h3
    simpa using h3
  · unfold sortWorldK
    rw [size_grow, size_putRowK]
    exact Nat.le_add_right _ _
end Go.Proofs.Ytbhiddppohbjhaa
