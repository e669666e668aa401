/- ClockNil: the law's walk. -/
import Derived.Test.YtcocdhlpmgfphaaNil
namespace Go.Proofs.Ytcocdhlpmgfphaa
open Go Go.RowKit
open S

theorem nil_big (s : ByteArray) (made : Bool) (w : World) (h : (100 : Int) < s.size) : Calls Try.prog 6 #[.string s, .bool made] w fun e w' => e = .returned (.bool true) ∧ Below w.heap.size w w' := by
  have HK := Lib.hid (known_any w)
  go_enter Try.func6, Try.ntmps6
  go_wp2_with fail
  refine HK.out.mono ?_
  rintro e w' ⟨rfl, hb⟩
  go_wp2_with fail
  go_ret
  exact ⟨rfl, hb⟩
set_option maxHeartbeats 1000000 in
theorem nil_no (s : ByteArray) (w : World) (h : ¬ (100 : Int) < s.size) : Calls Try.prog 6 #[.string s, .bool false] w fun e w' => e = .returned (.bool true) ∧ Below w.heap.size w w' := by
  have HN := Lib.hid (nm_nil w)
  go_enter Try.func6, Try.ntmps6
  go_wp2_with fail
  refine (touch_nm _ s _ HN.out).mono ?_
  rintro e w' ⟨rfl, rfl⟩
  go_wp2_with fail
  refine (victim_nm _ _ HN.out).mono ?_
  rintro e w' ⟨rfl, rfl⟩
  go_wp2_with fail
  refine (has_nm _ s _ HN.out).mono ?_
  rintro e w' ⟨rfl, rfl⟩
  go_wp2_with fail
  refine (marked_nm _ s _ HN.out).mono ?_
  rintro e w' ⟨rfl, rfl⟩
  go_wp2_with fail
  refine (drop_nm _ s _ HN.out).mono ?_
  rintro e w' ⟨rfl, rfl⟩
  go_wp2_with fail
  refine (len_nm _ _ HN.out).mono ?_
  rintro e w' ⟨rfl, rfl⟩
  go_wp2_with fail
  refine (keys_nm _ _ HN.out).mono ?_
  rintro e w' ⟨rfl, rfl⟩
  go_wp2_with fail
  refine (known_any _).mono ?_
  rintro e w' ⟨rfl, hb⟩
  go_wp2_with fail
  go_ret
  exact ⟨rfl, hb⟩
set_option maxHeartbeats 1000000 in
theorem nil_zero (s : ByteArray) (w : World) (h : ¬ (100 : Int) < s.size) : Calls Try.prog 6 #[.string s, .bool true] w fun e w' => e = .returned (.bool true) ∧ Below w.heap.size w w' := by
  have HN := Lib.hid (nm_zero w.heap.size (w.alloc (.cells #[.slice none 0 0, .map none] 54)) (by rw [row_cell (heap_alloc_new w _)]; rfl))
  go_enter Try.func6, Try.ntmps6
  go_wp2_with fail
  refine (touch_nm _ s _ HN.out).mono ?_
  rintro e w' ⟨rfl, rfl⟩
  go_wp2_with fail
  refine (victim_nm _ _ HN.out).mono ?_
  rintro e w' ⟨rfl, rfl⟩
  go_wp2_with fail
  refine (has_nm _ s _ HN.out).mono ?_
  rintro e w' ⟨rfl, rfl⟩
  go_wp2_with fail
  refine (marked_nm _ s _ HN.out).mono ?_
  rintro e w' ⟨rfl, rfl⟩
  go_wp2_with fail
  refine (drop_nm _ s _ HN.out).mono ?_
  rintro e w' ⟨rfl, rfl⟩
  go_wp2_with fail
  refine (len_nm _ _ HN.out).mono ?_
  rintro e w' ⟨rfl, rfl⟩
  go_wp2_with fail
  refine (keys_nm _ _ HN.out).mono ?_
  rintro e w' ⟨rfl, rfl⟩
  go_wp2_with fail
  refine (known_any _).mono ?_
  rintro e w' ⟨rfl, hb⟩
  go_wp2_with fail
  go_ret
  exact ⟨rfl, Below.trans (by go_grown) (hb.mono (by simp))⟩
theorem nil_walk (s : ByteArray) (_ws : s.size ≤ maxLen) (made : Bool) (w : World) : Calls Try.prog 6 #[.string s, .bool made] w fun e w' => e = .returned (.bool true) ∧ Below w.heap.size w w' := by
  by_cases h : (100 : Int) < s.size
  · exact nil_big s made w h
  · cases made
    · exact nil_no s w h
    · exact nil_zero s w h
end Go.Proofs.Ytcocdhlpmgfphaa
