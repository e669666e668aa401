/- What must come of the law's fixed calls. -/
import Derived.Test.YtcocdhlpmgfphaaCkS
namespace Go.Proofs.Ytcocdhlpmgfphaa
open Go Go.RowKit
open S

theorem kok_abc : kok ⟨#[97]⟩ ∧ kok ⟨#[98]⟩ ∧ kok ⟨#[99]⟩ := by
  unfold kok maxLen
  exact ⟨by decide, by decide, by decide⟩
theorem tchA : touch [] ⟨#[97]⟩ = [(⟨#[97]⟩, true)] := rfl
theorem tchB : touch [(⟨#[97]⟩, true)] ⟨#[98]⟩ = [(⟨#[97]⟩, true), (⟨#[98]⟩, true)] := rfl
theorem tchC : touch [(⟨#[97]⟩, true), (⟨#[98]⟩, true)] ⟨#[99]⟩ = [(⟨#[97]⟩, true), (⟨#[98]⟩, true), (⟨#[99]⟩, true)] := rfl
theorem vicA : vic [(⟨#[97]⟩, true), (⟨#[98]⟩, true), (⟨#[99]⟩, true)] = [(⟨#[97]⟩, false), (⟨#[98]⟩, false), (⟨#[99]⟩, false)] := rfl
theorem tchD : touch [(⟨#[97]⟩, false), (⟨#[98]⟩, false), (⟨#[99]⟩, false)] ⟨#[97]⟩ = [(⟨#[97]⟩, true), (⟨#[98]⟩, false), (⟨#[99]⟩, false)] := rfl
theorem vicB : vic [(⟨#[97]⟩, true), (⟨#[98]⟩, false), (⟨#[99]⟩, false)] = [(⟨#[98]⟩, false), (⟨#[99]⟩, false), (⟨#[97]⟩, false)] := rfl

set_option maxHeartbeats 1000000 in
theorem known_any (w : World) : Calls Try.prog 7 #[] w fun e w' => e = .returned (.bool true) ∧ Below w.heap.size w w' := by
  obtain ⟨ka, kb, kc⟩ := kok_abc
  go_enter Try.func7, Try.ntmps7
  go_wp2_with fail
  refine (new_ck w).mono ?_
  rintro e w0 ⟨g, mb, rfl, h0⟩
  go_wp2_with fail
  refine (touch_ck h0 _ ka (by omega)).mono ?_
  rintro e w1 ⟨rfl, h1⟩
  rw [tchA] at h1
  clear h0
  go_wp2_with fail
  refine (touch_ck h1 _ kb (by omega)).mono ?_
  rintro e w2 ⟨rfl, h2⟩
  rw [tchB] at h2
  clear h1
  go_wp2_with fail
  refine (touch_ck h2 _ kc (by omega)).mono ?_
  rintro e w3 ⟨rfl, h3⟩
  rw [tchC] at h3
  clear h2
  go_wp2_with fail
  refine (victim_ck h3 (by simp)).mono ?_
  rintro e w4 ⟨k, r, hv, rfl, h4⟩
  rw [vicA] at hv h4
  simp only [List.cons.injEq, Prod.mk.injEq, and_true] at hv
  obtain ⟨rfl, rfl⟩ := hv
  clear h3
  go_wp2_with fail
  refine (touch_ck h4 _ ka (by omega)).mono ?_
  rintro e w5 ⟨rfl, h5⟩
  rw [tchD] at h5
  clear h4
  go_wp2_with fail
  refine (victim_ck h5 (by simp)).mono ?_
  rintro e w6 ⟨k, r, hv, rfl, h6⟩
  rw [vicB] at hv h6
  simp only [List.cons.injEq, Prod.mk.injEq, and_true] at hv
  obtain ⟨rfl, rfl⟩ := hv
  clear h5
  go_wp2_with fail
  refine (len_ck h6).mono ?_
  rintro e w7 ⟨rfl, rfl⟩
  have e3 : (keysOf [((⟨#[98]⟩ : ByteArray), false), (⟨#[99]⟩, false), (⟨#[97]⟩, false)]).length = 3 := rfl
  rw [e3]
  have hb := Lib.hid h6.bl
  clear h6
  go_wp2_with fail
  go_ret
  exact ⟨rfl, hb.out⟩
end Go.Proofs.Ytcocdhlpmgfphaa
