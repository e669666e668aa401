/- What must come of the law's fixed calls; SlotsNil's walk. -/
import Derived.Test.YteecedlgjmkkkaaSettle
namespace Go.Proofs.Yteecedlgjmkkkaa
open Go Go.RowKit

theorem take_fst {g r : Nat} {l : List Nat} {w : World} {k : Nat} (hat : At w g r l) (h : l[k]? = some 0) (hn : ∀ j : Nat, j < k → l[j]? ≠ some 0) :
    Calls Try.prog 8 #[.pointer (some ⟨g, 0, none⟩)] w fun e w' => e = .returned (.tuple #[.int .i64 (k : Nat), .bool true]) ∧ Only g r w w' ∧ At w' g r (l.set k 1) := by
  refine (take_any g r l w hat).mono ?_
  rintro e w' (⟨k', h1, h2, rfl, h3, h4⟩ | ⟨h1, _, _⟩)
  · have : k' = k := by
      by_cases hlt : k' < k
      · exact absurd h1 (hn _ hlt)
      · by_cases hgt : k < k'
        · exact absurd h (h2 _ hgt)
        · omega
    subst this
    exact ⟨rfl, h3, h4⟩
  · exact absurd h (h1 k)
theorem take_none {g r : Nat} {l : List Nat} {w : World} (hat : At w g r l) (h : ∀ j : Nat, l[j]? ≠ some 0) :
    Calls Try.prog 8 #[.pointer (some ⟨g, 0, none⟩)] w fun e w' => e = .returned (.tuple #[.int .i64 0, .bool false]) ∧ w = w' := by
  refine (take_any g r l w hat).mono ?_
  rintro e w' (⟨k', h1, h2, rfl, h3, h4⟩ | ⟨_, h2, h3⟩)
  · exact absurd h1 (h k')
  · exact ⟨h2, h3⟩
theorem give_yes {g r : Nat} {l : List Nat} {w : World} {k : Nat} (hat : At w g r l) (h : l[k]? = some 1) :
    Calls Try.prog 9 #[.pointer (some ⟨g, 0, none⟩), .int .i64 k] w fun e w' => e = .returned (.bool true) ∧ Only g r w w' ∧ At w' g r (l.set k 2) := by
  refine (give_any g r k l w hat).mono ?_
  rintro e w' (⟨_, _, h1, h2, h3⟩ | ⟨h1, _, _⟩)
  · exact ⟨h1, h2, by simpa using h3⟩
  · exact absurd ⟨by omega, by simpa using h⟩ h1

set_option maxHeartbeats 1000000 in
theorem known_any (w : World) : Calls Try.prog 7 #[] w fun e w' => e = .returned (.bool true) ∧ Below w.heap.size w w' := by
  go_enter Try.func7, Try.ntmps7
  go_wp2_with fail
  refine (new_any 2 w (by omega) (by omega)).mono ?_
  rintro e w0 ⟨g, r, rfl, hg, hr, hb, ha0⟩
  replace ha0 : At w0 g r [0, 0] := ha0
  go_wp2_with fail
  refine (take_fst (k := 0) ha0 rfl (by omega)).mono ?_
  rintro e w1 ⟨rfl, h1, ha1⟩
  replace ha1 : At w1 g r [1, 0] := ha1
  replace h1 := hb.trans (h1.below hg hr)
  clear ha0 hb
  go_wp2_with fail
  refine (take_fst (k := 1) ha1 rfl (by intro j hj; have h0 : j = 0 := (by omega); subst h0; decide)).mono ?_
  rintro e w2 ⟨rfl, h2, ha2⟩
  replace ha2 : At w2 g r [1, 1] := ha2
  replace h2 := h1.trans (h2.below hg hr)
  clear ha1 h1
  go_wp2_with fail
  refine (give_yes (k := 0) ha2 rfl).mono ?_
  rintro e w3 ⟨rfl, h3, ha3⟩
  replace ha3 : At w3 g r [2, 1] := ha3
  replace h3 := h2.trans (h3.below hg hr)
  clear ha2 h2
  go_wp2_with fail
  refine (take_none ha3 (by intro j; match j with | 0 => simp | 1 => simp | j + 2 => simp)).mono ?_
  rintro e w4 ⟨rfl, rfl⟩
  go_wp2_with fail
  refine (settle_any g r _ _ ha3).mono ?_
  rintro e w5 ⟨rfl, h5, ha5⟩
  replace ha5 : At w5 g r [0, 1] := ha5
  replace h5 := h3.trans (h5.below hg hr)
  clear ha3 h3
  have hc : (List.count 2 [2, 1] : Nat) = 1 := by decide
  rw [hc]
  go_wp2_with fail
  refine (take_fst (k := 0) ha5 rfl (by omega)).mono ?_
  rintro e w6 ⟨rfl, h6, ha6⟩
  replace h6 := h5.trans (h6.below hg hr)
  clear ha5 h5 ha6
  go_wp2_with fail
  go_ret
  exact ⟨rfl, h6⟩

set_option maxHeartbeats 1000000 in
theorem nil_walk (i : Int) (w : World) : Calls Try.prog 5 #[.int .i64 i] w fun e w' => e = .returned (.bool true) ∧ Below w.heap.size w w' := by
  go_enter Try.func5, Try.ntmps5
  go_wp2_with fail
  refine (take_nil _).mono ?_
  rintro e w' ⟨rfl, rfl⟩
  go_wp2_with fail
  refine (count_nil _).mono ?_
  rintro e w' ⟨rfl, rfl⟩
  go_wp2_with fail
  refine (use_nil i _).mono ?_
  rintro e w' ⟨rfl, rfl⟩
  go_wp2_with fail
  refine (give_nil i _).mono ?_
  rintro e w' ⟨rfl, rfl⟩
  go_wp2_with fail
  refine (settle_nil _).mono ?_
  rintro e w' ⟨rfl, rfl⟩
  go_wp2_with fail
  refine (state_nil i _).mono ?_
  rintro e w' ⟨rfl, rfl⟩
  go_wp2_with fail
  refine (known_any _).mono ?_
  rintro e w' ⟨rfl, hb⟩
  go_wp2_with fail
  go_ret
  exact ⟨rfl, hb⟩
end Go.Proofs.Yteecedlgjmkkkaa
