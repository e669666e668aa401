/- What must come of the law's fixed calls; ReplayNil's walk. -/
import Derived.Test.YtigdpmbhflojcaaObj
import Derived.Test.YtigdpmbhflojcaaProg
import Derived.WalkKit
import Derived.ProofKit
import Derived.Handy
import Derived.Lib.Hide
namespace Go.Proofs.Ytigdpmbhflojcaa
open Go Go.RowKit

def k1 : St := ⟨5, ⟨#[120]⟩, 0, ⟨#[]⟩, 0, ⟨#[]⟩, 0, ⟨#[]⟩⟩
theorem kn1 : St.new.may 1 5 ⟨#[120]⟩ = true := by decide
theorem kn2 : St.new.keep 1 5 ⟨#[120]⟩ = k1 := by unfold St.keep; rw [kn1]; rfl
theorem kn3 : k1.may 1 4 ⟨#[121]⟩ = false := by decide
theorem kn4 : k1.keep 1 4 ⟨#[121]⟩ = k1 := by unfold St.keep; rw [kn3]; rfl
theorem kn5 : gotV k1 1 5 = .tuple #[.string ⟨#[120]⟩, .bool true] := by
  rw [got_yes (x := k1) (c := 1) (q := 5) ⟨by decide, by decide, rfl, by decide⟩]; rfl
theorem kn6 : k1.seq 1 = 5 := rfl

theorem known_any (w : World) : Calls Try.prog 7 #[] w fun e w' => e = .returned (.bool true) ∧ Below w.heap.size w w' := by
  go_enter Try.func7, Try.ntmps7
  go_wp2_with fail
  refine (new_any _).mono ?_
  rintro e w0 ⟨rfl, rfl⟩
  have ha0 : At (w.alloc (.cells (objC St.new) 45)) w.heap.size St.new := by
    show (w.heap.push _)[w.heap.size]? = _
    simp
  have hb0 : Below w.heap.size w (w.alloc (.cells (objC St.new) 45)) := by go_grown
  generalize w.alloc (.cells (objC St.new) 45) = W0 at *
  go_wp2_with fail
  refine (keep_obj w.heap.size St.new 1 5 ⟨#[120]⟩ W0 ha0).mono ?_
  rintro e w1 ⟨rfl, ho1, ha1⟩
  rw [kn1]
  rw [kn2] at ha1
  replace ho1 := hb0.trans (ho1.below (Nat.le_refl _))
  clear hb0 ha0
  go_wp2_with fail
  refine (keep_obj w.heap.size k1 1 4 ⟨#[121]⟩ w1 ha1).mono ?_
  rintro e w2 ⟨rfl, ho2, ha2⟩
  rw [kn3]
  rw [kn4] at ha2
  replace ho2 := ho1.trans (ho2.below (Nat.le_refl _))
  clear ho1 ha1
  go_wp2_with fail
  refine (get_obj w.heap.size k1 1 5 w2 ha2).mono ?_
  rintro e w3 ⟨rfl, rfl⟩
  rw [kn5]
  go_wp2_with fail
  refine (last_obj w.heap.size k1 1 w2 ha2).mono ?_
  rintro e w3 ⟨rfl, rfl⟩
  rw [kn6]
  go_wp2_with fail
  go_ret
  exact ⟨rfl, ho2⟩

/-! ### of no answers -/
theorem keep_nil (c q : Int) (b : ByteArray) (w : World) : Calls Try.prog 10 #[.pointer none, .int .i64 c, .int .i64 q, .string b] w fun e w' => e = .returned (.bool false) ∧ w = w' := by
  go_enter Try.func10, Try.ntmps10
  go_wp2
  go_ret
  exact ⟨rfl, rfl⟩
theorem get_nil (c q : Int) (w : World) : Calls Try.prog 11 #[.pointer none, .int .i64 c, .int .i64 q] w fun e w' => e = .returned (.tuple #[.string ⟨#[]⟩, .bool false]) ∧ w = w' := by
  go_enter Try.func11, Try.ntmps11
  go_wp2
  go_ret2
  exact ⟨rfl, rfl⟩
theorem last_nil (c : Int) (w : World) : Calls Try.prog 13 #[.pointer none, .int .i64 c] w fun e w' => e = .returned (.int .i64 0) ∧ w = w' := by
  go_enter Try.func13, Try.ntmps13
  go_wp2
  go_ret
  exact ⟨rfl, rfl⟩

theorem nil_walk (c q : Int) (b : ByteArray) (_ : b.size ≤ maxLen) (w : World) :
    Calls Try.prog 5 #[.int .i64 c, .int .i64 q, .string b] w fun e w' => e = .returned (.bool true) ∧ Below w.heap.size w w' := by
  by_cases h : b.size ≤ 2100
  · go_enter Try.func5, Try.ntmps5
    go_wp2_with fail
    refine (keep_nil _ _ _ _).mono ?_
    rintro e w3 ⟨rfl, rfl⟩
    go_wp2_with fail
    refine (get_nil _ _ _).mono ?_
    rintro e w3 ⟨rfl, rfl⟩
    go_wp2_with fail
    refine (last_nil _ _).mono ?_
    rintro e w3 ⟨rfl, rfl⟩
    go_wp2_with fail
    refine (known_any _).mono ?_
    rintro e w4 ⟨rfl, hb4⟩
    go_wp2_with fail
    go_ret
    exact ⟨rfl, hb4⟩
  · go_enter Try.func5, Try.ntmps5
    go_wp2_with fail
    refine (known_any _).mono ?_
    rintro e w4 ⟨rfl, hb4⟩
    go_wp2_with fail
    go_ret
    exact ⟨rfl, hb4⟩
end Go.Proofs.Ytigdpmbhflojcaa
