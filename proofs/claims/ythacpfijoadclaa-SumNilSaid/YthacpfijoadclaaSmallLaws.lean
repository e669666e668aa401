/- SumOf, SumNil: the walks. -/
import Derived.Test.YthacpfijoadclaaOf
namespace Go.Proofs.Ythacpfijoadclaa
open Go Go.RowKit

theorem of_big (a b : ByteArray) (w : World) (h : (1000 : Int) < a.size ∨ (1000 : Int) < b.size) :
    Calls Try.prog 3 #[.string a, .string b] w fun e w' => e = .returned (.bool true) ∧ Below w.heap.size w w' := by
  have HK := Lib.hid (known_any w)
  by_cases h1 : (1000 : Int) < a.size
  · clear h
    go_enter Try.func3, Try.ntmps3
    go_wp2_with fail
    refine HK.out.mono ?_
    rintro e w' ⟨rfl, hb⟩
    go_wp2_with fail
    go_ret
    exact ⟨rfl, hb⟩
  · have h2 := h.resolve_left h1
    clear h
    go_enter Try.func3, Try.ntmps3
    go_wp2_with fail
    refine HK.out.mono ?_
    rintro e w' ⟨rfl, hb⟩
    go_wp2_with fail
    go_ret
    exact ⟨rfl, hb⟩
set_option maxHeartbeats 1000000 in
theorem of_main (a b : ByteArray) (wa : a.size ≤ maxLen) (wb : b.size ≤ maxLen) (w : World) (h1 : ¬ (1000 : Int) < a.size) (h2 : ¬ (1000 : Int) < b.size) :
    Calls Try.prog 3 #[.string a, .string b] w fun e w' => e = .returned (.bool true) ∧ Below w.heap.size w w' := by
  have HA := Lib.hid (And.intro wa wb)
  clear wa wb
  go_enter Try.func3, Try.ntmps3
  go_wp2_with fail
  refine (new_any w).mono ?_
  rintro e w1 ⟨rfl, hb, hs⟩
  have H1 := Lib.hid (And.intro hb hs)
  clear hb hs
  go_wp2_with fail
  refine (of_any w.heap.size 0 a HA.out.1 w1 (.inl H1.out.2) (by omega) (by omega)).mono ?_
  rintro e w2 ⟨rfl, ho, hs⟩
  have H2 := Lib.hid (And.intro (H1.out.1.trans (ho.below (Nat.le_refl _))) hs)
  clear ho hs
  go_wp2_with fail
  refine (ref_any a HA.out.1 _).mono ?_
  rintro e w' ⟨rfl, rfl⟩
  go_wp2_with fail
  refine (of_any w.heap.size _ b HA.out.2 w2 H2.out.2 (by omega) (by omega)).mono ?_
  rintro e w3 ⟨rfl, ho, hs⟩
  have H3 := Lib.hid (And.intro (H2.out.1.trans (ho.below (Nat.le_refl _))) hs)
  clear ho hs
  go_wp2_with fail
  refine (ref_any b HA.out.2 _).mono ?_
  rintro e w' ⟨rfl, rfl⟩
  go_wp2_with fail
  refine (sum_any b HA.out.2 _).mono ?_
  rintro e w4 ⟨rfl, hb⟩
  have H4 := Lib.hid (And.intro (H3.out.1.trans (hb.mono H3.out.1.size)) (H3.out.2.below hb))
  clear hb
  go_wp2_with fail
  refine (ref_any b HA.out.2 _).mono ?_
  rintro e w' ⟨rfl, rfl⟩
  go_wp2_with fail
  refine (of_any w.heap.size _ a HA.out.1 w4 H4.out.2 (by omega) (by omega)).mono ?_
  rintro e w5 ⟨rfl, ho, hs⟩
  have H5 := Lib.hid (H4.out.1.trans (ho.below (Nat.le_refl _)))
  clear ho hs
  go_wp2_with fail
  refine (ref_any a HA.out.1 _).mono ?_
  rintro e w' ⟨rfl, rfl⟩
  go_wp2_with fail
  refine (known_any _).mono ?_
  rintro e w' ⟨rfl, hb⟩
  go_wp2_with fail
  go_ret
  exact ⟨rfl, H5.out.trans (hb.mono H5.out.size)⟩
theorem of_walk (a : ByteArray) (wa : a.size ≤ maxLen) (b : ByteArray) (wb : b.size ≤ maxLen) (w : World) :
    Calls Try.prog 3 #[.string a, .string b] w fun e w' => e = .returned (.bool true) ∧ Below w.heap.size w w' := by
  by_cases h1 : (1000 : Int) < a.size
  · exact of_big a b w (.inl h1)
  · by_cases h2 : (1000 : Int) < b.size
    · exact of_big a b w (.inr h2)
    · exact of_main a b wa wb w h1 h2

theorem nil_walk (a : ByteArray) (_wa : a.size ≤ maxLen) (n : Int) (_wn : (Lit.int .u32 n).wf = true) (w : World) :
    Calls Try.prog 7 #[.string a, .int .u32 n] w fun e w' => e = .returned (.bool true) ∧ Below w.heap.size w w' := by
  by_cases h1 : (1000 : Int) < a.size
  · go_enter Try.func7, Try.ntmps7
    go_wp2_with fail
    refine (known_any _).mono ?_
    rintro e w' ⟨rfl, hb⟩
    go_wp2_with fail
    go_ret
    exact ⟨rfl, hb⟩
  · go_enter Try.func7, Try.ntmps7
    go_wp2_with fail
    refine (of_nil a _).mono ?_
    rintro e w' ⟨rfl, rfl⟩
    go_wp2_with fail
    refine (more_nil n a _).mono ?_
    rintro e w' ⟨rfl, rfl⟩
    go_wp2_with fail
    refine (calls_nil _).mono ?_
    rintro e w' ⟨rfl, rfl⟩
    go_wp2_with fail
    refine (known_any _).mono ?_
    rintro e w' ⟨rfl, hb⟩
    go_wp2_with fail
    go_ret
    exact ⟨rfl, hb⟩
end Go.Proofs.Ythacpfijoadclaa
