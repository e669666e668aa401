/- posthouseref16's functions over a row of numbers; the step of the law, of both sides. -/
import Derived.Test.YteecedlgjmkkkaaCount
import Derived.OwnWalk
namespace Go.Proofs.Yteecedlgjmkkkaa
open Go Go.RowKit

def numC (L : List Nat) : List Value := L.map fun (x : Nat) => Value.int .i64 (x : Int)
theorem numC_len (L : List Nat) : (numC L).length = L.length := by simp [numC]
/-- the row at block g begins with the numbers L -/
def Row (w : World) (g : Nat) (L : List Nat) : Prop := ∃ cur, w.heap[g]? = some (.cells cur 3) ∧ cur.toList.take L.length = numC L
theorem Row.cell {w : World} {g k : Nat} {L : List Nat} (h : Row w g L) (hk : k < L.length) : w.cell? ⟨g, k, none⟩ = some (.int .i64 (L[k] : Nat)) := by
  obtain ⟨cur, hc, ht⟩ := h
  rw [cell_at hc]
  have : (cur.toList.take L.length)[k]? = (numC L)[k]? := by rw [ht]
  rw [List.getElem?_take, if_pos hk] at this
  simpa [numC, hk] using this
theorem Row.froz {w : World} {g : Nat} {L : List Nat} (h : Row w g L) (k : Nat) : w.frozen? ⟨g, k, none⟩ = false := by
  obtain ⟨cur, hc, ht⟩ := h
  exact froz_at hc k
theorem Row.set {w : World} {g : Nat} {L : List Nat} (h : Row w g L) (k x : Nat) : Row (w.setCell ⟨g, k, none⟩ (.int .i64 (x : Int))) g (L.set k x) := by
  obtain ⟨cur, hc, ht⟩ := h
  refine ⟨_, set_at hc _ _, ?_⟩
  rw [Array.toList_setIfInBounds, List.take_set, List.length_set, ht]
  simp [numC, List.map_set]
theorem Row.of {w w' : World} {g : Nat} {L : List Nat} (h : Row w g L) (hb : w'.heap[g]? = w.heap[g]?) : Row w' g L := by
  obtain ⟨cur, hc, ht⟩ := h
  exact ⟨cur, hb.trans hc, ht⟩
theorem Row.lt {w : World} {g : Nat} {L : List Nat} (h : Row w g L) : g < w.heap.size := by
  obtain ⟨cur, hc, ht⟩ := h
  exact some_lt hc
theorem Row.below {w w' : World} {g : Nat} {L : List Nat} (h : Row w g L) (hb : Below w.heap.size w w') : Row w' g L := h.of (hb.block g h.lt)

theorem eqI {a b : Nat} (h : a = b) : (((a : Nat) : Int) == ((b : Nat) : Int)) = true := by subst h; simp
theorem neI {a b : Nat} (h : ¬ a = b) : (((a : Nat) : Int) == ((b : Nat) : Int)) = false := by
  have : ¬ ((a : Nat) : Int) = (b : Nat) := by omega
  simpa using this
/-! ### Count -/
theorem take_count_yes (K k : Nat) (l : List Nat) (hk : k < l.length) (h : l[k] = K) : (l.take (k + 1)).count K = (l.take k).count K + 1 := by
  rw [List.take_succ_eq_append_getElem hk, h]; simp
theorem take_count_no (K k : Nat) (l : List Nat) (hk : k < l.length) (h : ¬ l[k] = K) : (l.take (k + 1)).count K = (l.take k).count K := by
  rw [List.take_succ_eq_append_getElem hk, List.count_append, List.count_singleton]; simp only [beq_iff_eq, if_neg h, Nat.add_zero]
theorem take_count_few (K k : Nat) (l : List Nat) : (l.take k).count K ≤ k := by
  have := List.count_le_length (a := K) (l := l.take k)
  simp at this
  omega

set_option maxHeartbeats 1000000 in
theorem refcount_any (g cap K : Nat) (L : List Nat) (w : World) (hr : Row w g L) (hfew : L.length ≤ 65536) :
    Calls Try.prog 14 #[.slice (some ⟨g, 0, none⟩) L.length cap, .int .i64 (K : Nat)] w fun e w' => e = .returned (.int .i64 (L.count K : Nat)) ∧ w = w' := by
  have HR := Lib.hid hr
  clear hr
  go_enter Try.func14, Try.ntmps14
  go_wp2
  go_loop [6, 5] (fun i n => ∃ k : Nat, k ≤ L.length ∧ i = .int .i64 k ∧ n = .int .i64 ((L.take k).count K : Nat)) (fun i _ => L.length - (intOf i).toNat)
  case atStart => exact ⟨0, by omega, rfl, rfl⟩
  case round =>
    obtain ⟨k, hk, rfl, rfl⟩ := hrel
    by_cases hlt : k < L.length
    · have hc := HR.out.cell hlt
      have hcf := take_count_few K k L
      by_cases he : L[k] = K
      · have hcn := Lib.hid (take_count_yes K k L hlt he)
        have ht : (((L[k] : Nat) : Int) == (K : Int)) = true := eqI he
        clear he
        go_wp2_with fail
        go_round
        case rel => exact ⟨k + 1, by omega, by go_num, by rw [hcn.out]; go_num⟩
        case measure => simp [intOf]; omega
      · have hcn := Lib.hid (take_count_no K k L hlt he)
        have ht : (((L[k] : Nat) : Int) == (K : Int)) = false := neI he
        clear he
        go_wp2_with fail
        go_round
        case rel => exact ⟨k + 1, by omega, by go_num, by rw [hcn.out]⟩
        case measure => simp [intOf]; omega
    · obtain rfl : k = L.length := by omega
      go_wp2_with fail
      go_ret
      exact ⟨by simp, rfl⟩

/-! ### Least -/
def LeastV (K : Nat) (L : List Nat) (w : World) (e : Ending) (w' : World) : Prop :=
  w = w' ∧ ((∃ k : Nat, L[k]? = some K ∧ (∀ j : Nat, j < k → L[j]? ≠ some K) ∧ e = .returned (.int .i64 k)) ∨ ((∀ j : Nat, L[j]? ≠ some K) ∧ e = .returned (.int .i64 (-1))))
set_option maxHeartbeats 1000000 in
theorem refleast_any (g cap K : Nat) (L : List Nat) (w : World) (hr : Row w g L) (hfew : L.length ≤ 65536) :
    Calls Try.prog 20 #[.slice (some ⟨g, 0, none⟩) L.length cap, .int .i64 (K : Nat)] w (LeastV K L w) := by
  have HR := Lib.hid hr
  clear hr
  go_enter Try.func20, Try.ntmps20
  go_wp2
  go_loop [5] (fun i => ∃ k : Nat, k ≤ L.length ∧ (∀ j : Nat, j < k → L[j]? ≠ some K) ∧ i = .int .i64 k) (fun i => L.length - (intOf i).toNat)
  case atStart => exact ⟨0, by omega, by simp, rfl⟩
  case round =>
    obtain ⟨k, hk, hno, rfl⟩ := hrel
    have HN := Lib.hid hno
    clear hno
    by_cases hlt : k < L.length
    · have hc := HR.out.cell hlt
      by_cases he : L[k] = K
      · have ht : (((L[k] : Nat) : Int) == (K : Int)) = true := eqI he
        have HE := Lib.hid he
        clear he
        go_wp2_with fail
        go_ret
        exact ⟨rfl, .inl ⟨k, by simp [hlt, HE.out], HN.out, rfl⟩⟩
      · have ht : (((L[k] : Nat) : Int) == (K : Int)) = false := neI he
        have HE := Lib.hid he
        clear he
        go_wp2_with fail
        go_round
        case rel =>
          refine ⟨k + 1, by omega, fun j hj => ?_, by go_num⟩
          by_cases hjk : j = k
          · subst hjk; simpa [hlt] using HE.out
          · exact HN.out j (by omega)
        case measure => simp [intOf]; omega
    · go_wp2_with fail
      go_ret
      refine ⟨rfl, .inr ⟨fun j => ?_, rfl⟩⟩
      by_cases hj : j < k
      · exact HN.out j hj
      · simp [show L.length ≤ j by omega]

/-! ### Is -/
theorem is_low (g cap n : Nat) (i K : Int) (w : World) (h : (i ≥ (0 : Int)) = False) :
    Calls Try.prog 19 #[.slice (some ⟨g, 0, none⟩) n cap, .int .i64 i, .int .i64 K] w fun e w' => e = .returned (.bool false) ∧ w = w' := by
  have h : ¬ 0 ≤ i := by simpa using h
  go_enter Try.func19, Try.ntmps19
  go_wp2
  go_ret
  exact ⟨rfl, rfl⟩
theorem is_high (g cap n : Nat) (i K : Int) (w : World) (h0 : 0 ≤ i) (h : ¬ i < (n : Int)) :
    Calls Try.prog 19 #[.slice (some ⟨g, 0, none⟩) n cap, .int .i64 i, .int .i64 K] w fun e w' => e = .returned (.bool false) ∧ w = w' := by
  go_enter Try.func19, Try.ntmps19
  go_wp2
  go_ret
  exact ⟨rfl, rfl⟩
theorem is_in (g cap n k : Nat) (x K : Int) (w : World) (h : k < n) (hc : w.cell? ⟨g, k, none⟩ = some (.int .i64 x)) :
    Calls Try.prog 19 #[.slice (some ⟨g, 0, none⟩) n cap, .int .i64 k, .int .i64 K] w fun e w' => e = .returned (.bool (x == K)) ∧ w = w' := by
  go_enter Try.func19, Try.ntmps19
  go_wp2
  go_ret
  exact ⟨rfl, rfl⟩
theorem is_any (g cap K : Nat) (i : Int) (L : List Nat) (w : World) (hr : Row w g L) :
    Calls Try.prog 19 #[.slice (some ⟨g, 0, none⟩) L.length cap, .int .i64 i, .int .i64 (K : Nat)] w fun e w' => e = .returned (.bool (decide (0 ≤ i ∧ L[i.toNat]? = some K))) ∧ w = w' := by
  by_cases h0 : 0 ≤ i
  · obtain ⟨k, rfl⟩ : ∃ k : Nat, i = k := ⟨i.toNat, by omega⟩
    by_cases hk : k < L.length
    · refine (is_in g cap L.length k _ K w hk (hr.cell hk)).mono ?_
      rintro e w' ⟨rfl, rfl⟩
      refine ⟨?_, rfl⟩
      by_cases h : L[k] = K
      · rw [eqI h]; simp [hk, h]
      · rw [neI h]; simp [hk, h]
    · refine (is_high g cap L.length k K w h0 (by omega)).mono ?_
      rintro e w' ⟨rfl, rfl⟩
      exact ⟨by simp [hk], rfl⟩
  · refine (is_low g cap L.length i K w (by simpa using h0)).mono ?_
    rintro e w' ⟨rfl, rfl⟩
    exact ⟨by simp [h0], rfl⟩
end Go.Proofs.Yteecedlgjmkkkaa
