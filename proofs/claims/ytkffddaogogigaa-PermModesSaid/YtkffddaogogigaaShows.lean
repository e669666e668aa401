/- The reference's Show: its contract; the walks of PermShows and PermModes. -/
import Derived.Test.YtkffddaogogigaaBase
import Derived.Test.YtkffddaogogigaaShow
import Derived.Test.YtkffddaogogigaaBits
import Derived.Test.YtkffddaogogigaaModeLaw
import Derived.Test.YtkffddaogogigaaMode
import Derived.Test.YtkffddaogogigaaProg
import Derived.ProofKit
import Derived.Handy
import Derived.Lib.Hide
namespace Go.Proofs.Ytkffddaogogigaa
open Go.RowKit

def upto (m : Int) (k : Nat) : ByteArray := ⟨((rowList m 9).take k).toArray⟩

theorem upto_size (m : Int) (k : Nat) : (upto m k).size = min k 9 := by simp [upto, ByteArray.size, rowList]

theorem slice_letter (k : Nat) (h : k < 9) (w : World) :
    (Instr.slice 9 (Value.string { data := #[114, 119, 120, 114, 119, 120, 114, 119, 120] }) (some (Value.int IntKind.i64 (8 - (8 - (k : Int))))) (some (Value.int IntKind.i64 (9 - (8 - (k : Int))))) none).run Try.prog w = .ok (.string ⟨#[letter k]⟩) w := by
  have e1 : 8 - (8 - (k : Int)) = (k : Nat) := by omega
  have e2 : 9 - (8 - (k : Int)) = (k + 1 : Nat) := by omega
  rw [e1, e2]
  have : k = 0 ∨ k = 1 ∨ k = 2 ∨ k = 3 ∨ k = 4 ∨ k = 5 ∨ k = 6 ∨ k = 7 ∨ k = 8 := by omega
  rcases this with rfl | rfl | rfl | rfl | rfl | rfl | rfl | rfl | rfl <;> rfl
theorem upto_next (m : Int) (k : Nat) (h : k < 9) : upto m (k + 1) = upto m k ++ ⟨#[showAt m k]⟩ := by
  have hl : k < (rowList m 9).length := by rw [rowList_len]; exact h
  have e : (rowList m 9)[k] = showAt m k := by simp [rowList, h]
  unfold upto
  rw [List.take_succ_eq_append_getElem hl, e]
  rfl
theorem upto_letter (m : Int) (k : Nat) (h : k < 9) (ht : (bits BinOp.and IntKind.i64 (m / 2 ^ (8 - k)) 1 == 1) = true) : upto m k ++ ⟨#[letter k]⟩ = upto m (k + 1) := by
  rw [and1] at ht
  rw [upto_next m k h]
  simp only [beq_iff_eq] at ht
  unfold showAt
  rw [if_neg (by omega)]
theorem upto_dash (m : Int) (k : Nat) (h : k < 9) (ht : (bits BinOp.and IntKind.i64 (m / 2 ^ (8 - k)) 1 == 1) = false) : upto m k ++ ⟨#[45]⟩ = upto m (k + 1) := by
  rw [and1] at ht
  rw [upto_next m k h]
  simp only [beq_eq_false_iff_ne, ne_eq] at ht
  unfold showAt
  rw [if_pos (by omega)]

set_option maxHeartbeats 1000000 in
theorem refshow_any (m : Int) (w : World) :
    Calls Try.prog 16 #[.int .i64 m] w fun e w' => e = .returned (.string (showF m)) ∧ Below w.heap.size w w' := by
  go_enter Try.func16, Try.ntmps16
  go_wp2
  go_loop [3, 4] (fun s i => ∃ k : Nat, k ≤ 9 ∧ i = .int .i64 (8 - k) ∧ s = .string (upto m k)) (fun _ i => (intOf i + 1).toNat)
  case atStart => exact ⟨0, by omega, rfl, rfl⟩
  case round =>
    obtain ⟨k, hk, rfl, rfl⟩ := hrel
    by_cases hlt : k < 9
    · have hsz : (upto m k).size ≤ 8 := by rw [upto_size]; omega
      have hsl := slice_letter k hlt
      have hs1 : (⟨#[letter k]⟩ : ByteArray).size = 1 := rfl
      have H1 := upto_letter m k hlt
      have H2 := upto_dash m k hlt
      have G1 := Lib.hid H1
      have G2 := Lib.hid H2
      clear H1 H2
      go_wp2
      · have ht : (bits BinOp.and IntKind.i64 (m / 2 ^ (8 - k)) 1 == 1) = true := by assumption
        rw [G1.out ht]
        go_round
        case rel => exact ⟨k + 1, by omega, by go_num, rfl⟩
        case measure => simp [intOf]; omega
      · have ht : (bits BinOp.and IntKind.i64 (m / 2 ^ (8 - k)) 1 == 1) = false := by assumption
        rw [G2.out ht]
        go_round
        case rel => exact ⟨k + 1, by omega, by go_num, rfl⟩
        case measure => simp [intOf]; omega
    · obtain rfl : k = 9 := by omega
      go_wp2
      go_ret
      exact ⟨rfl, by go_grown⟩

theorem shows_walk (m : Int) (w : World) :
    Calls Try.prog 5 #[.int .i64 m] w fun e w' => e = .returned (.bool true) ∧ Below w.heap.size w w' := by
  have hm : modeV (showF m) = .tuple #[.int .i64 (m % 512), .int .i64 0] := by
    unfold modeV showF
    rw [show (rowList m 9).toArray.toList = rowList m 9 from rfl, mode_show]
  have h511 := and511 m
  go_enter Try.func5, Try.ntmps5
  go_wp2_with fail
  refine (show_any m _).mono ?_
  rintro e w1 ⟨rfl, hb1⟩
  go_wp2_with fail
  refine (mode_nine _ rfl _).mono ?_
  rw [hm]
  rintro e w2 ⟨rfl, hb2⟩
  have hb12 := hb1.trans (hb2.mono hb1.size)
  clear hb1 hb2
  go_wp2_with fail
  refine (refshow_any m _).mono ?_
  rintro e w3 ⟨rfl, hb3⟩
  have hb13 := hb12.trans (hb3.mono hb12.size)
  clear hb12 hb3
  go_wp2_with fail
  refine (known_any _).mono ?_
  rintro e w4 ⟨rfl, hb4⟩
  go_wp2_with fail
  go_ret
  exact ⟨rfl, hb13.trans (hb4.mono hb13.size)⟩

theorem modes_walk (s : ByteArray) (_ : s.size ≤ maxLen) (w : World) :
    Calls Try.prog 6 #[.string s] w fun e w' => e = .returned (.bool true) ∧ Below w.heap.size w w' := by
  have bad : ∀ V : Prop, (∀ w : World, Calls Try.prog 15 #[.string s] w fun e w' => e = .returned (.tuple #[.int .i64 0, .int .i64 40]) ∧ Below w.heap.size w w') →
      Calls Try.prog 6 #[.string s] w fun e w' => e = .returned (.bool true) ∧ Below w.heap.size w w' := by
    intro _ hc
    have HC := Lib.hid hc
    clear hc
    go_enter Try.func6, Try.ntmps6
    go_wp2_with fail
    refine (HC.out _).mono ?_
    rintro e w1 ⟨rfl, hb1⟩
    go_wp2_with fail
    refine (known_any _).mono ?_
    rintro e w4 ⟨rfl, hb4⟩
    go_wp2_with fail
    go_ret
    exact ⟨rfl, hb1.trans (hb4.mono hb1.size)⟩
  by_cases h9 : s.size = 9
  · cases hm : modeGo s.data.toList 0 0 with
    | none =>
      refine bad True fun w => ?_
      have := mode_nine s h9 w
      unfold modeV at this
      rw [hm] at this
      exact this
    | some m =>
      obtain ⟨h1, h2, h3⟩ := show_of_mode s m h9 hm
      have hv : modeV s = .tuple #[.int .i64 m, .int .i64 0] := by unfold modeV; rw [hm]
      have H1 := Lib.hid h1
      have HV := Lib.hid hv
      clear h1 hv
      have h9' := Lib.hid h9
      clear h9 hm bad
      go_enter Try.func6, Try.ntmps6
      go_wp2_with fail
      refine (mode_nine _ h9'.out _).mono ?_
      rw [HV.out]
      rintro e w1 ⟨rfl, hb1⟩
      go_wp2_with fail
      refine (refshow_any m _).mono ?_
      rw [H1.out]
      rintro e w3 ⟨rfl, hb3⟩
      have hb13 := hb1.trans (hb3.mono hb1.size)
      clear hb1 hb3
      go_wp2_with fail
      refine (known_any _).mono ?_
      rintro e w4 ⟨rfl, hb4⟩
      go_wp2_with fail
      go_ret
      exact ⟨rfl, hb13.trans (hb4.mono hb13.size)⟩
  · refine bad True fun w => mode_long s ?_ w
    simp only [bne_iff_ne, ne_eq]
    omega
end Go.Proofs.Ytkffddaogogigaa
