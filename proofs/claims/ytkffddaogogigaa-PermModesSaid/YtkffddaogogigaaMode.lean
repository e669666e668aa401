/- perm.Mode and the reference's Show: contracts; the walks of PermShows and PermModes. -/
import Derived.Test.YtkffddaogogigaaBase
import Derived.Test.YtkffddaogogigaaShow
import Derived.Test.YtkffddaogogigaaBits
import Derived.Test.YtkffddaogogigaaModeLaw
import Derived.Test.YtkffddaogogigaaProg
import Derived.ProofKit
import Derived.Handy
import Derived.Laws.IdiomStrings
import Derived.Lib.Hide
namespace Go.Proofs.Ytkffddaogogigaa
open Go.RowKit

theorem mode_long (s : ByteArray) (h : ((s.size : Int) != 9) = true) (w : World) :
    Calls Try.prog 15 #[.string s] w fun e w' => e = .returned (.tuple #[.int .i64 0, .int .i64 40]) ∧ Below w.heap.size w w' := by
  go_enter Try.func15, Try.ntmps15
  go_wp2
  go_ret2
  exact ⟨rfl, by go_grown⟩

/-- what Mode answers -/
def modeV (s : ByteArray) : Value := match modeGo s.data.toList 0 0 with
  | some m => .tuple #[.int .i64 m, .int .i64 0]
  | none => .tuple #[.int .i64 0, .int .i64 40]

theorem byte_eq {c d : UInt8} (h : ((c.toNat : Int) == (d.toNat : Int)) = true) : c = d := by
  simp only [beq_iff_eq, Int.natCast_inj] at h
  exact UInt8.toNat_inj.1 h
theorem byte_ne {c d : UInt8} (h : ((c.toNat : Int) == (d.toNat : Int)) = false) : ¬ c = d := by
  rintro rfl
  simp at h
theorem pow_256 (k : Nat) (h : k ≤ 8) : (2 : Int) ^ k ≤ 256 := by
  have : k = 0 ∨ k = 1 ∨ k = 2 ∨ k = 3 ∨ k = 4 ∨ k = 5 ∨ k = 6 ∨ k = 7 ∨ k = 8 := by omega
  rcases this with rfl | rfl | rfl | rfl | rfl | rfl | rfl | rfl | rfl <;> decide
theorem letter_at (k : Nat) (h : k < 9) : (⟨#[114, 119, 120, 114, 119, 120, 114, 119, 120]⟩ : ByteArray)[k]'(h) = letter k := by
  have : k = 0 ∨ k = 1 ∨ k = 2 ∨ k = 3 ∨ k = 4 ∨ k = 5 ∨ k = 6 ∨ k = 7 ∨ k = 8 := by omega
  rcases this with rfl | rfl | rfl | rfl | rfl | rfl | rfl | rfl | rfl <;> rfl
theorem or_tab : ∀ n : Fin 256, bits .or .i64 ((n.val : Int) * 2) 1 = 2 * (n.val : Int) + 1 := by decide +kernel
theorem or1 (n : Int) (h0 : 0 ≤ n) (h1 : n ≤ 255) : bits .or .i64 (n * 2) 1 = 2 * n + 1 := by
  have := or_tab ⟨n.toNat, by omega⟩
  have e : ((n.toNat : Nat) : Int) = n := by omega
  simp only [e] at this
  exact this

set_option maxHeartbeats 1000000 in
theorem mode_nine (s : ByteArray) (h : s.size = 9) (w : World) :
    Calls Try.prog 15 #[.string s] w fun e w' => e = .returned (modeV s) ∧ Below w.heap.size w w' := by
  have hconv := run_bytes_of_string (P := Try.prog) w 9 39 5 s Try.underlying9 Try.underlying39 Try.underlying5
  have h9 : ((s.size : Int) != 9) = false := by simp [h]
  go_enter Try.func15, Try.ntmps15
  go_wp2
  clear hconv
  generalize hW : (w.alloc (Obj.cells (bytesRow s (grownCap w 9 0 5)) 5 ((bytesRow s (grownCap w 9 0 5)).size, (bytesRow s (grownCap w 9 0 5)).size + 1))).drew = W1
  generalize grownCap w 9 0 5 = cap at *
  have hcell : ∀ k, (hk : k < s.data.toList.length) → W1.cell? ⟨w.heap.size, k, none⟩ = some (.int .u8 ((s.data.toList[k]).toNat : Nat)) := by
    intro k hk
    rw [← hW, World.cell?_drew, World.cell?_alloc_mark]
    have : k < s.data.size := hk
    rw [bytesRow, Array.getElem?_append_left (by simpa using this), Array.getElem?_map, Array.getElem?_eq_getElem this]
    rfl
  have hb : Below w.heap.size w W1 := by rw [← hW]; go_grown
  clear hW h9
  have H9 := Lib.hid h; clear h
  go_loop [4, 13] (fun m i => ∃ k : Nat, ∃ n : Int, k ≤ 9 ∧ 0 ≤ n ∧ n < 2 ^ k ∧ i = .int .i64 k ∧ m = .int .i64 n ∧ modeGo (s.data.toList.drop k) k n = modeGo s.data.toList 0 0) (fun _ i => 9 - (intOf i).toNat)
  case atStart => exact ⟨0, 0, by omega, by omega, by simp, rfl, rfl, rfl⟩
  case round =>
    obtain ⟨k, n, hk, h0, h1, rfl, rfl, hgo⟩ := hrel
    by_cases hlt : k < 9
    · have hlen : k < s.data.toList.length := by have : s.data.toList.length = 9 := H9.out; omega
      have hc := hcell k hlen
      rw [List.drop_eq_getElem_cons hlen] at hgo
      generalize s.data.toList[k] = c at *
      have HG := Lib.hid hgo
      clear hgo hcell
      have hp := pow_256 k (by omega)
      have hn : n ≤ 255 := by omega
      have hl := letter_at k hlt
      generalize hle : letter k = lk at *
      have HL := Lib.hid hle
      clear hle
      go_wp2
      · have ht : ((c.toNat : Int) == (lk.toNat : Int)) = true := by assumption
        go_round
        case rel => exact ⟨k + 1, 2 * n + 1, by omega, by omega, by rw [Int.pow_succ]; omega, by go_num, by rw [or1 n h0 hn], by rw [← HG.out, modeGo, if_pos (by rw [HL.out]; exact byte_eq ht)]⟩
        case measure => simp [intOf]; omega
      · have ht : ((c.toNat : Int) == (lk.toNat : Int)) = false := by assumption
        have hd : ((c.toNat : Int) == 45) = true := by assumption
        go_round
        case rel => exact ⟨k + 1, 2 * n, by omega, by omega, by rw [Int.pow_succ]; omega, by go_num, by rw [Int.mul_comm], by rw [← HG.out, modeGo, if_neg (by rw [HL.out]; exact byte_ne ht), if_pos (byte_eq (d := 45) hd)]⟩
        case measure => simp [intOf]; omega
      · have ht : ((c.toNat : Int) == (lk.toNat : Int)) = false := by assumption
        have hd : ((c.toNat : Int) == 45) = false := by assumption
        go_ret2
        refine ⟨?_, hb⟩
        unfold modeV
        rw [← HG.out, modeGo, if_neg (by rw [HL.out]; exact byte_ne ht), if_neg (byte_ne (d := 45) hd)]
        rfl
    · obtain rfl : k = 9 := by omega
      have hnil : s.data.toList.drop 9 = [] := List.drop_of_length_le (by have : s.data.toList.length = 9 := H9.out; omega)
      rw [hnil] at hgo
      have HG := Lib.hid hgo
      clear hgo hcell hnil
      go_wp2
      go_ret2
      refine ⟨?_, hb⟩
      unfold modeV
      rw [← HG.out, modeGo]
      rfl
end Go.Proofs.Ytkffddaogogigaa
