/- slots.Slots: New, Take, Settle, State, Count. -/
import Derived.Test.YteecedlgjmkkkaaObj
import Derived.BigQuiet
import Derived.Deep.QuietTactic
namespace Go.Proofs.Yteecedlgjmkkkaa
open Go Go.RowKit

/-! ### of no slots -/
theorem take_nil (w : World) : Calls Try.prog 8 #[.pointer none] w fun e w' => e = .returned (.tuple #[.int .i64 0, .bool false]) ∧ w = w' := by
  go_enter Try.func8, Try.ntmps8
  go_wp2
  go_ret2
  exact ⟨rfl, rfl⟩
theorem settle_nil (w : World) : Calls Try.prog 10 #[.pointer none] w fun e w' => e = .returned (.int .i64 0) ∧ w = w' := by
  go_enter Try.func10, Try.ntmps10
  go_wp2
  go_ret
  exact ⟨rfl, rfl⟩
theorem count_nil (w : World) : Calls Try.prog 13 #[.pointer none] w fun e w' => e = .returned (.tuple #[.int .i64 0, .int .i64 0, .int .i64 0]) ∧ w = w' := by
  go_enter Try.func13, Try.ntmps13
  go_wp2
  go_ret3
  exact ⟨rfl, rfl⟩
theorem state_nil (i : Int) (w : World) : Calls Try.prog 15 #[.pointer none, .int .i64 i] w fun e w' => e = .returned (.int .i64 0) ∧ w = w' := by
  go_enter Try.func15, Try.ntmps15
  go_wp2
  go_ret
  exact ⟨rfl, rfl⟩
theorem use_nil (i : Int) (w : World) : Calls Try.prog 16 #[.pointer none, .int .i64 i] w fun e w' => e = .returned (.bool false) ∧ w = w' := by
  go_enter Try.func16, Try.ntmps16
  go_wp2_with fail
  refine (turn_nil i 0 1 w).mono ?_
  rintro e w' ⟨rfl, rfl⟩
  go_wp2_with fail
  go_ret
  exact ⟨rfl, rfl⟩
theorem give_nil (i : Int) (w : World) : Calls Try.prog 9 #[.pointer none, .int .i64 i] w fun e w' => e = .returned (.bool false) ∧ w = w' := by
  go_enter Try.func9, Try.ntmps9
  go_wp2_with fail
  refine (turn_nil i 1 2 w).mono ?_
  rintro e w' ⟨rfl, rfl⟩
  go_wp2_with fail
  go_ret
  exact ⟨rfl, rfl⟩

/-! ### Take -/
/-- the least free place from k on -/
def TakeV (g r : Nat) (l : List Nat) (w : World) (e : Ending) (w' : World) : Prop :=
  (∃ k : Nat, l[k]? = some 0 ∧ (∀ j : Nat, j < k → l[j]? ≠ some 0) ∧ e = .returned (.tuple #[.int .i64 (k : Nat), .bool true]) ∧ Only g r w w' ∧ At w' g r (l.set k 1)) ∨
  ((∀ j : Nat, l[j]? ≠ some 0) ∧ e = .returned (.tuple #[.int .i64 0, .bool false]) ∧ w = w')

set_option maxHeartbeats 2000000 in
theorem take_any (g r : Nat) (l : List Nat) (w : World) (hat : At w g r l) :
    Calls Try.prog 8 #[.pointer (some ⟨g, 0, none⟩)] w (TakeV g r l w) := by
  have c0 : w.cell? ⟨g, 0, none⟩ = some (.slice (some ⟨r, 0, none⟩) l.length l.length) := by rw [cell_at hat.obj]; rfl
  have hfew := hat.few
  have HAT := Lib.hid hat
  clear hat
  go_enter Try.func8, Try.ntmps8
  go_wp2
  go_loop [12] (fun i => ∃ k : Nat, k ≤ l.length ∧ (∀ j : Nat, j < k → l[j]? ≠ some 0) ∧ i = .int .i64 k) (fun i => l.length - (intOf i).toNat)
  case atStart => exact ⟨0, by omega, by simp, rfl⟩
  case round =>
    obtain ⟨k, hk, hno, rfl⟩ := hrel
    by_cases hlt : k < l.length
    · have T := turn_any g r k 0 1 l w (by decide) HAT.out
      have HT := Lib.hid T
      clear T
      go_wp2_with fail
      refine HT.out.mono ?_
      rintro e w' (⟨h0, h1, rfl, h2, h3⟩ | ⟨h0, rfl, rfl⟩)
      · have hh := Lib.hid (And.intro h1 (And.intro h2 h3))
        clear h1 h2 h3
        go_wp2_with fail
        go_ret2
        exact .inl ⟨k, by simpa using hh.out.1, hno, rfl, hh.out.2.1, by simpa using hh.out.2.2⟩
      · have hh := Lib.hid h0
        clear h0
        go_wp2_with fail
        go_round
        case rel =>
          refine ⟨k + 1, by omega, fun j hj => ?_, by go_num⟩
          by_cases hjk : j = k
          · subst hjk
            intro h
            exact hh.out ⟨by omega, by simpa using h⟩
          · exact hno j (by omega)
        case measure => simp [intOf]; omega
    · go_wp2_with fail
      go_ret2
      refine .inr ⟨fun j => ?_, rfl, rfl⟩
      by_cases hj : j < k
      · exact hno j hj
      · simp [show l.length ≤ j by omega]

/-! ### State -/
def stateOf (l : List Nat) (i : Int) : Int := if 0 ≤ i then (match l[i.toNat]? with | some x => (x : Int) + 1 | none => 0) else 0
theorem state_low (g : Nat) (i : Int) (w : World) (h : i < 0) : Calls Try.prog 15 #[.pointer (some ⟨g, 0, none⟩), .int .i64 i] w fun e w' => e = .returned (.int .i64 0) ∧ w = w' := by
  go_enter Try.func15, Try.ntmps15
  go_wp2
  go_ret
  exact ⟨rfl, rfl⟩
theorem state_high (g : Nat) (i : Int) (w : World) (A : Option Addr) (n c : Nat) (hc : w.cell? ⟨g, 0, none⟩ = some (.slice A n c)) (h0 : ¬ i < 0) (h : (n : Int) ≤ i) : Calls Try.prog 15 #[.pointer (some ⟨g, 0, none⟩), .int .i64 i] w fun e w' => e = .returned (.int .i64 0) ∧ w = w' := by
  go_enter Try.func15, Try.ntmps15
  go_wp2
  go_ret
  exact ⟨rfl, rfl⟩
theorem state_in (g r k : Nat) (x : Nat) (w : World) (n c : Nat) (hc : w.cell? ⟨g, 0, none⟩ = some (.slice (some ⟨r, 0, none⟩) n c)) (hk : k < n) (hx : w.cell? ⟨r, k, none⟩ = some (.int .i64 (x : Nat))) (h3 : x < 3) :
    Calls Try.prog 15 #[.pointer (some ⟨g, 0, none⟩), .int .i64 k] w fun e w' => e = .returned (.int .i64 ((x : Int) + 1)) ∧ w = w' := by
  go_enter Try.func15, Try.ntmps15
  go_wp2
  go_ret
  exact ⟨by go_num, rfl⟩
theorem state_any (g r : Nat) (i : Int) (l : List Nat) (w : World) (hat : At w g r l) (h3 : ∀ x ∈ l, x < 3) :
    Calls Try.prog 15 #[.pointer (some ⟨g, 0, none⟩), .int .i64 i] w fun e w' => e = .returned (.int .i64 (stateOf l i)) ∧ w = w' := by
  have c0 : w.cell? ⟨g, 0, none⟩ = some (.slice (some ⟨r, 0, none⟩) l.length l.length) := by rw [cell_at hat.obj]; rfl
  unfold stateOf
  by_cases h0 : i < 0
  · rw [if_neg (by omega)]
    exact state_low g i w h0
  · rw [if_pos (by omega)]
    obtain ⟨k, rfl⟩ : ∃ k : Nat, i = k := ⟨i.toNat, by omega⟩
    by_cases hk : k < l.length
    · simpa [hk] using state_in g r k l[k] w _ _ c0 hk (row_at hat hk) (h3 _ (List.getElem_mem hk))
    · simpa [hk] using state_high g k w _ _ _ c0 h0 (by omega)
end Go.Proofs.Yteecedlgjmkkkaa
