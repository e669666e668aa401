/- index: the program's check of a change is the document's. -/
import Derived.Test.YtokhnbdhcehonaaGreatMade
import Derived.Test.YtokhnbdhcehonaaGreatOpen18
set_option linter.unusedSimpArgs false
set_option linter.unusedVariables false
namespace Go.Proofs.YtokhnbdhcehonaaGreat
open Go Go.RowKit Row
set_option maxRecDepth 100000
theorem i64_le {n : Int} (h : i64 n) : n ≤ 9223372036854775807 := by
  unfold i64 at h
  simp only [Lit.wf, Bool.and_eq_true, decide_eq_true_eq] at h
  exact Int.le_trans h.2 (by decide)
theorem num_top {n lo : Int} (h : i64 n) : numP n lo 9223372036854775807 = decide (lo ≤ n) := by
  unfold numP
  rw [decide_eq_true (i64_le h), Bool.and_true]
theorem atP_atR {a : At} (hz : i64 a.z) (he : i64 a.e) (hc : i64 a.c) (hi : i64 a.i) : atP a = atR a := by
  have e1 := i64_le hz
  have e2 := i64_le he
  have e3 := i64_le hc
  have e4 := i64_le hi
  unfold atP atR lims numP lmOk
  rw [Bool.eq_iff_iff]
  simp only [List.all_cons, List.all_nil, Bool.and_eq_true, decide_eq_true_eq, Bool.and_true]
  omega
theorem hasS_no {k : Int} (h : ¬ (1 ≤ k ∧ k ≤ 9)) : hasS k = ⟨#[]⟩ := by
  unfold hasS
  rw [if_neg (by omega), if_neg (by omega), if_neg (by omega), if_neg (by omega), if_neg (by omega), if_neg (by omega), if_neg (by omega), if_neg (by omega)]
theorem isEmpty_of {s : ByteArray} {a : UInt8} {l : List UInt8} (h : s.toList = a :: l) : s.toList.isEmpty = false := by rw [h]; rfl
theorem chk_eq {x : Ch} (ho : x.ok) : chkR x = chkP x := by
  by_cases hk : 1 ≤ x.k ∧ x.k ≤ 9
  · have hs := num_top (lo := 1) ho.s
    have ha := atP_atR ho.z ho.e ho.c ho.i
    obtain ⟨k, e, s, u, n, c, a, m, t⟩ := x
    simp only at hk hs ha
    have h9 : k = 1 ∨ k = 2 ∨ k = 3 ∨ k = 4 ∨ k = 5 ∨ k = 6 ∨ k = 7 ∨ k = 8 ∨ k = 9 := by omega
    clear hk ho
    rcases h9 with rfl | rfl | rfl | rfl | rfl | rfl | rfl | rfl | rfl
    all_goals
      rw [Bool.eq_iff_iff]
      simp [chkR, chkP, restR, hasS, hasB, codes, okL, sets, only, setL, numB, txtB, hs, ha]
      first | grind | (constructor <;> (intro h; simp_all [eq_comm]))
  · have hn := hasS_no hk
    unfold chkR chkP
    rw [hn]
    simp [codes, nil_toList]
end Go.Proofs.YtokhnbdhcehonaaGreat
