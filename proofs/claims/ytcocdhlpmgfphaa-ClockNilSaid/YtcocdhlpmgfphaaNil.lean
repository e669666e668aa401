/- ClockNil: the walk. -/
import Derived.Test.YtcocdhlpmgfphaaKnown
namespace Go.Proofs.Ytcocdhlpmgfphaa
open Go Go.RowKit
open S

def NotMade (p : Value) (w : World) : Prop := Calls Try.prog 28 #[p] w fun e w' => e = .returned (.bool false) ∧ w = w'
theorem nm_nil (w : World) : NotMade (.pointer none) w := by
  unfold NotMade
  go_enter Try.func28, Try.ntmps28
  go_wp2
  go_ret
  exact ⟨rfl, rfl⟩
theorem nm_zero (g : Nat) (w : World) (c1 : w.cell? ⟨g, 1, none⟩ = some (.map none)) : NotMade (.pointer (some ⟨g, 0, none⟩)) w := by
  unfold NotMade
  have hneq := run_neq_map_nil (P := Try.prog) w 52 9 57 none Try.underlying52
  go_enter Try.func28, Try.ntmps28
  go_wp2
  go_ret
  exact ⟨rfl, rfl⟩
theorem touch_nm (p : Value) (s : ByteArray) (w : World) (h : NotMade p w) : Calls Try.prog 9 #[p, .string s] w fun e w' => e = .returned (.tuple #[]) ∧ w = w' := by
  have HM := Lib.hid h
  clear h
  go_enter Try.func9, Try.ntmps9
  go_wp2_with fail
  refine Calls.mono HM.out ?_
  rintro e w' ⟨rfl, rfl⟩
  go_wp2_with fail
  go_returns
  exact ⟨rfl, rfl⟩
theorem victim_nm (p : Value) (w : World) (h : NotMade p w) : Calls Try.prog 10 #[p] w fun e w' => e = .returned (.tuple #[.string ⟨#[]⟩, .bool false]) ∧ w = w' := by
  have HM := Lib.hid h
  clear h
  go_enter Try.func10, Try.ntmps10
  go_wp2_with fail
  refine Calls.mono HM.out ?_
  rintro e w' ⟨rfl, rfl⟩
  go_wp2_with fail
  go_ret2
  exact ⟨rfl, rfl⟩
theorem has_nm (p : Value) (s : ByteArray) (w : World) (h : NotMade p w) : Calls Try.prog 11 #[p, .string s] w fun e w' => e = .returned (.bool false) ∧ w = w' := by
  have HM := Lib.hid h
  clear h
  go_enter Try.func11, Try.ntmps11
  go_wp2_with fail
  refine Calls.mono HM.out ?_
  rintro e w' ⟨rfl, rfl⟩
  go_wp2_with fail
  go_ret
  exact ⟨rfl, rfl⟩
theorem keys_nm (p : Value) (w : World) (h : NotMade p w) : Calls Try.prog 12 #[p] w fun e w' => e = .returned (.slice none 0 0) ∧ w = w' := by
  have HM := Lib.hid h
  clear h
  go_enter Try.func12, Try.ntmps12
  go_wp2_with fail
  refine Calls.mono HM.out ?_
  rintro e w' ⟨rfl, rfl⟩
  go_wp2_with fail
  go_ret
  exact ⟨rfl, rfl⟩
theorem marked_nm (p : Value) (s : ByteArray) (w : World) (h : NotMade p w) : Calls Try.prog 13 #[p, .string s] w fun e w' => e = .returned (.bool false) ∧ w = w' := by
  have HM := Lib.hid h
  clear h
  go_enter Try.func13, Try.ntmps13
  go_wp2_with fail
  refine Calls.mono HM.out ?_
  rintro e w' ⟨rfl, rfl⟩
  go_wp2_with fail
  go_ret
  exact ⟨rfl, rfl⟩
theorem drop_nm (p : Value) (s : ByteArray) (w : World) (h : NotMade p w) : Calls Try.prog 22 #[p, .string s] w fun e w' => e = .returned (.bool false) ∧ w = w' := by
  have HM := Lib.hid (has_nm p s w h)
  clear h
  go_enter Try.func22, Try.ntmps22
  go_wp2_with fail
  refine Calls.mono HM.out ?_
  rintro e w' ⟨rfl, rfl⟩
  go_wp2_with fail
  go_ret
  exact ⟨rfl, rfl⟩
theorem len_nm (p : Value) (w : World) (h : NotMade p w) : Calls Try.prog 27 #[p] w fun e w' => e = .returned (.int .i64 0) ∧ w = w' := by
  have HM := Lib.hid h
  clear h
  go_enter Try.func27, Try.ntmps27
  go_wp2_with fail
  refine Calls.mono HM.out ?_
  rintro e w' ⟨rfl, rfl⟩
  go_wp2_with fail
  go_ret
  exact ⟨rfl, rfl⟩
end Go.Proofs.Ytcocdhlpmgfphaa
