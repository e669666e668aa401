/- slots.Slots: New, Settle. -/
import Derived.Test.YteecedlgjmkkkaaLoops
namespace Go.Proofs.Yteecedlgjmkkkaa
open Go Go.RowKit

def fx (x : Nat) : Nat := if x = 2 then 0 else x
def fix (k : Nat) (l : List Nat) : List Nat := (l.take k).map fx ++ l.drop k
theorem fix_zero (l : List Nat) : fix 0 l = l := by simp [fix]
theorem fix_all (l : List Nat) : fix l.length l = l.map fx := by simp [fix]
theorem fix_len (k : Nat) (l : List Nat) : (fix k l).length = l.length := by simp [fix]; omega
theorem fix_at (k : Nat) (l : List Nat) (hk : k < l.length) : (fix k l)[k]? = some l[k] := by
  unfold fix
  rw [List.getElem?_append_right (by simp; omega)]
  simp [show min k l.length = k by omega, hk]
theorem fix_yes (k : Nat) (l : List Nat) (hk : k < l.length) (h : l[k] = 2) : (fix k l).set k 0 = fix (k + 1) l := by
  unfold fix
  rw [List.drop_eq_getElem_cons hk, List.take_succ_eq_append_getElem hk, h, List.set_append]
  simp [show min k l.length = k by omega, fx]
theorem fix_no (k : Nat) (l : List Nat) (hk : k < l.length) (h : ¬ l[k] = 2) : fix k l = fix (k + 1) l := by
  unfold fix
  rw [List.drop_eq_getElem_cons hk, List.take_succ_eq_append_getElem hk]
  rw [List.map_append, List.append_assoc]
  simp only [List.map_cons, List.map_nil, List.singleton_append, fx, if_neg h]
theorem cnt_yes (k : Nat) (l : List Nat) (hk : k < l.length) (h : l[k] = 2) : (l.take (k + 1)).count 2 = (l.take k).count 2 + 1 := by
  rw [List.take_succ_eq_append_getElem hk, h]; simp
theorem cnt_no (k : Nat) (l : List Nat) (hk : k < l.length) (h : ¬ l[k] = 2) : (l.take (k + 1)).count 2 = (l.take k).count 2 := by
  rw [List.take_succ_eq_append_getElem hk, List.count_append, List.count_singleton]; simp only [beq_iff_eq, if_neg h, Nat.add_zero]
theorem cnt_few (k : Nat) (l : List Nat) : (l.take k).count 2 ≤ l.length := by
  have := List.count_le_length (a := 2) (l := l.take k)
  simp at this
  omega

def SettleV (g r : Nat) (l : List Nat) (w : World) (e : Ending) (w' : World) : Prop :=
  e = .returned (.int .i64 (l.count 2 : Nat)) ∧ Only g r w w' ∧ At w' g r (l.map fx)

set_option maxHeartbeats 2000000 in
theorem settle_any (g r : Nat) (l : List Nat) (w : World) (hat : At w g r l) :
    Calls Try.prog 10 #[.pointer (some ⟨g, 0, none⟩)] w (SettleV g r l w) := by
  have c0 : w.cell? ⟨g, 0, none⟩ = some (.slice (some ⟨r, 0, none⟩) l.length l.length) := by rw [cell_at hat.obj]; rfl
  have hfew := hat.few
  have HAT := Lib.hid hat
  clear hat
  go_enter Try.func10, Try.ntmps10
  go_wp2
  go_loopw [12, 3] (fun i n wr => ∃ k : Nat, k ≤ l.length ∧ i = .int .i64 k ∧ n = .int .i64 ((l.take k).count 2 : Nat) ∧ Only g r w wr ∧ At wr g r (fix k l)) (fun i _ _ => l.length - (intOf i).toNat)
  case atStart => exact ⟨0, by omega, rfl, rfl, Only.refl _ _ _, by rw [fix_zero]; exact HAT.out⟩
  case round =>
    obtain ⟨k, hk, rfl, rfl, ho, ha⟩ := hrel
    have HO := Lib.hid ho
    have HA := Lib.hid ha
    clear ho ha
    by_cases hlt : k < l.length
    · have HT := Lib.hid (turn_any g r k 2 0 (fix k l) _ (by decide) HA.out)
      go_wp2_with fail
      refine HT.out.mono ?_
      rintro e w' (⟨h0, h1, rfl, h2, h3⟩ | ⟨h0, rfl, rfl⟩)
      · have h1 : l[k] = 2 := by
          have := fix_at k l hlt
          simp only [Int.toNat_natCast] at h1
          rw [this] at h1
          simpa using h1
        have hh := Lib.hid (And.intro h1 (And.intro h2 h3))
        have hcn := Lib.hid (cnt_yes k l hlt h1)
        have hcf := cnt_few k l
        clear h1 h2 h3
        go_wp2_with fail
        go_round
        case rel =>
          refine ⟨k + 1, by omega, by go_num, ?_, HO.out.trans hh.out.2.1, ?_⟩
          · rw [hcn.out]; go_num
          · have := hh.out.2.2
            simp only [Int.toNat_natCast] at this
            rw [fix_yes k l hlt hh.out.1] at this
            exact this
        case measure => simp [intOf]; omega
      · have h1 : ¬ l[k] = 2 := by
          intro h
          refine h0 ⟨by omega, ?_⟩
          simp only [Int.toNat_natCast]
          rw [fix_at k l hlt, h]
        have hh := Lib.hid h1
        clear h0 h1
        go_wp2_with fail
        go_round
        case rel =>
          refine ⟨k + 1, by omega, by go_num, ?_, HO.out, ?_⟩
          · rw [cnt_no k l hlt hh.out]
          · rw [← fix_no k l hlt hh.out]; exact HA.out
        case measure => simp [intOf]; omega
    · obtain rfl : k = l.length := by omega
      go_wp2_with fail
      go_ret
      exact ⟨by simp, HO.out, by rw [← fix_all]; exact HA.out⟩

/-! ### New -/
theorem new_low (n : Int) (w : World) (h : n < 1) : Calls Try.prog 6 #[.int .i64 n] w fun e w' => e = .returned (.tuple #[.pointer none, .int .i64 3]) ∧ w = w' := by
  go_enter Try.func6, Try.ntmps6
  go_wp2
  go_ret2
  exact ⟨rfl, rfl⟩
theorem new_high (n : Int) (w : World) (h0 : ¬ n < 1) (h : 65536 < n) : Calls Try.prog 6 #[.int .i64 n] w fun e w' => e = .returned (.tuple #[.pointer none, .int .i64 3]) ∧ w = w' := by
  go_enter Try.func6, Try.ntmps6
  go_wp2
  go_ret2
  exact ⟨rfl, rfl⟩
theorem made_row (n : Nat) : madeCells (Value.int .i64 0).cells n = rowC (List.replicate n 0) := by
  unfold rowC madeCells
  apply Array.ext'
  simp only [Array.toList_map, Array.toList_range, List.map_replicate]
  rw [List.eq_replicate_iff]
  refine ⟨by simp, ?_⟩
  intro b hb
  obtain ⟨x, _, rfl⟩ := List.mem_map.1 hb
  simp [Value.cells, Nat.mod_one]

def NewV (n : Nat) (w : World) (e : Ending) (w' : World) : Prop :=
  ∃ g r, e = .returned (.tuple #[.pointer (some ⟨g, 0, none⟩), .int .i64 0]) ∧ w.heap.size ≤ g ∧ w.heap.size ≤ r ∧ Below w.heap.size w w' ∧ At w' g r (List.replicate n 0)

set_option maxHeartbeats 1000000 in
theorem new_any (n : Nat) (w : World) (h1 : 1 ≤ n) (h2 : n ≤ 65536) : Calls Try.prog 6 #[.int .i64 n] w (NewV n w) := by
  obtain ⟨i, hi⟩ : ∃ i, Try.prog.info? 53 = some i := Option.isSome_iff_exists.1 (by kernel_rfl)
  have e1 : (Try.prog.info? 53).map (fun i => (i.size, i.bytes)) = some (1, 8) := by kernel_rfl
  have e2 : (Try.prog.info? 53).bind (fun i => i.zero) = some (.int .i64 0) := by kernel_rfl
  rw [hi] at e1 e2
  simp only [Option.map_some, Option.some.injEq, Prod.mk.injEq, Option.bind_some] at e1 e2
  have hm := run_make (P := Try.prog) w 44 53 i _ Try.underlying44 hi e2 .i64 .i64 n n (by omega) (Int.le_refl _) (by rw [e1.2]; omega) (by omega)
  rw [e1.1, Nat.mul_one, Int.toNat_natCast, made_row] at hm
  go_enter Try.func6, Try.ntmps6
  go_wp2_with fail
  have ho : ((w.alloc (.cells (rowC (List.replicate n 0)) 53)).alloc (.cells #[.slice (some ⟨w.heap.size, 0, none⟩) n n, .int .i64 0, .int .i64 0, .int .i64 0] 52)).heap[w.heap.size + 1]? =
      some (.cells #[.slice (some ⟨w.heap.size, 0, none⟩) n n, .int .i64 0, .int .i64 0, .int .i64 0] 52) := by
    show ((w.heap.push _).push _)[w.heap.size + 1]? = _
    rw [Array.getElem?_push, if_pos (by simp)]
  have hr : ((w.alloc (.cells (rowC (List.replicate n 0)) 53)).alloc (.cells #[.slice (some ⟨w.heap.size, 0, none⟩) n n, .int .i64 0, .int .i64 0, .int .i64 0] 52)).heap[w.heap.size]? =
      some (.cells (rowC (List.replicate n 0)) 53) := by
    show ((w.heap.push _).push _)[w.heap.size]? = _
    rw [Array.getElem?_push, if_neg (by simp), Array.getElem?_push, if_pos rfl]
  refine (store_any _ _ 0 n _ (by rw [cell_at ho]; rfl) (froz_at ho _)).mono ?_
  rintro e w' ⟨rfl, rfl⟩
  have hat : At (((w.alloc (.cells (rowC (List.replicate n 0)) 53)).alloc (.cells #[.slice (some ⟨w.heap.size, 0, none⟩) n n, .int .i64 0, .int .i64 0, .int .i64 0] 52)).setCell ⟨w.heap.size + 1, 1, none⟩ (.int .i64 n)) (w.heap.size + 1) w.heap.size (List.replicate n 0) :=
    ⟨by rw [set_at ho]; simp [objC, List.count_replicate], (set_off (by omega) _ _).trans hr, by omega, by simpa using h2⟩
  have hbl : Below w.heap.size w (((w.alloc (.cells (rowC (List.replicate n 0)) 53)).alloc (.cells #[.slice (some ⟨w.heap.size, 0, none⟩) n n, .int .i64 0, .int .i64 0, .int .i64 0] 52)).setCell ⟨w.heap.size + 1, 1, none⟩ (.int .i64 n)) := by go_grown
  revert hbl hat
  generalize (((w.alloc (.cells (rowC (List.replicate n 0)) 53)).alloc (.cells #[.slice (some ⟨w.heap.size, 0, none⟩) n n, .int .i64 0, .int .i64 0, .int .i64 0] 52)).setCell ⟨w.heap.size + 1, 1, none⟩ (.int .i64 n)) = W
  intro hat hbl
  have HB := Lib.hid (And.intro hbl hat)
  clear hbl hat ho hr
  go_wp2_with fail
  go_ret2
  exact ⟨w.heap.size + 1, w.heap.size, rfl, by omega, Nat.le_refl _, HB.out.1, HB.out.2⟩
end Go.Proofs.Yteecedlgjmkkkaa
