/- index: slices.Clone (printed by gen_bs.py off its template). -/
import Derived.Test.YtokhnbdhcehonaaGreatRowk2
set_option linter.unusedSimpArgs false
set_option linter.unusedVariables false
namespace Go.Proofs.YtokhnbdhcehonaaGreat
open Go Go.RowKit Row
set_option maxRecDepth 100000
set_option maxHeartbeats 8000000 in
theorem cl_Hd {l : List Hd} {v : Value} {B : Nat} {w : World} (h : Rs w B v l) (hlen : l.length ≤ 1000) :
    Calls Tryz.prog 48 #[v] w fun e w' => ∃ v', e = .returned v' ∧ Rs w' w.heap.size v' l ∧ Below w.heap.size w w' := by
  obtain ⟨A, cap, rfl, hlc, hcap⟩ := h.any
  cases A with
  | none =>
    obtain ⟨rfl, _, rfl⟩ := h.nilled
    clear h
    have q := fun (w : World) (a : Option Addr) (n c n' c' : Nat) => Lib.run_eql_slice_nil w _ _ a n c n' c' Tryz.underlying25
    go_enter Tryz.func48, Tryz.ntmps48
    go_wp2_with fail
    go_ret
    exact ⟨_, rfl, Rs.nil _ _, Below.refl _ _⟩
  | some ad =>
    have HR := Lib.hid (h.below (w' := w.alloc (.cells #[] 40)) (by go_grown))
    clear h
    have q := fun (w : World) (a : Option Addr) (n c n' c' : Nat) => Lib.run_eql_slice_nil w _ _ a n c n' c' Tryz.underlying25
    go_enter Tryz.func48, Tryz.ntmps48
    go_wp2_with (refine rw_append (α := Hd) (l := []) rfl (.tmp 5) (.tmp 6) rfl rfl (Rs.empty w (Nat.le_refl _)) rfl HR.out (by simp; omega) (by rw [alloc_size]; omega) ?_; intro v' w' h1 h2 h3; have H1 := Lib.hid h1; have HB : Hid (Below w.heap.size w w') := Lib.hid ((show Below w.heap.size w (w.alloc (.cells #[] 40)) by go_grown).grown h2 (by rw [alloc_size]; omega) (fun j hj => by cases hj; exact Nat.le_refl _)); clear h1 h2 h3)
    go_ret
    exact ⟨v', rfl, H1.out, HB.out⟩
set_option maxHeartbeats 8000000 in
theorem cl_Fl {l : List Fl} {v : Value} {B : Nat} {w : World} (h : Rs w B v l) (hlen : l.length ≤ 1000) :
    Calls Tryz.prog 49 #[v] w fun e w' => ∃ v', e = .returned v' ∧ Rs w' w.heap.size v' l ∧ Below w.heap.size w w' := by
  obtain ⟨A, cap, rfl, hlc, hcap⟩ := h.any
  cases A with
  | none =>
    obtain ⟨rfl, _, rfl⟩ := h.nilled
    clear h
    have q := fun (w : World) (a : Option Addr) (n c n' c' : Nat) => Lib.run_eql_slice_nil w _ _ a n c n' c' Tryz.underlying26
    go_enter Tryz.func49, Tryz.ntmps49
    go_wp2_with fail
    go_ret
    exact ⟨_, rfl, Rs.nil _ _, Below.refl _ _⟩
  | some ad =>
    have HR := Lib.hid (h.below (w' := w.alloc (.cells #[] 50)) (by go_grown))
    clear h
    have q := fun (w : World) (a : Option Addr) (n c n' c' : Nat) => Lib.run_eql_slice_nil w _ _ a n c n' c' Tryz.underlying26
    go_enter Tryz.func49, Tryz.ntmps49
    go_wp2_with (refine rw_append (α := Fl) (l := []) rfl (.tmp 5) (.tmp 6) rfl rfl (Rs.empty w (Nat.le_refl _)) rfl HR.out (by simp; omega) (by rw [alloc_size]; omega) ?_; intro v' w' h1 h2 h3; have H1 := Lib.hid h1; have HB : Hid (Below w.heap.size w w') := Lib.hid ((show Below w.heap.size w (w.alloc (.cells #[] 50)) by go_grown).grown h2 (by rw [alloc_size]; omega) (fun j hj => by cases hj; exact Nat.le_refl _)); clear h1 h2 h3)
    go_ret
    exact ⟨v', rfl, H1.out, HB.out⟩
set_option maxHeartbeats 8000000 in
theorem cl_Nm {l : List Nm} {v : Value} {B : Nat} {w : World} (h : Rs w B v l) (hlen : l.length ≤ 1000) :
    Calls Tryz.prog 50 #[v] w fun e w' => ∃ v', e = .returned v' ∧ Rs w' w.heap.size v' l ∧ Below w.heap.size w w' := by
  obtain ⟨A, cap, rfl, hlc, hcap⟩ := h.any
  cases A with
  | none =>
    obtain ⟨rfl, _, rfl⟩ := h.nilled
    clear h
    have q := fun (w : World) (a : Option Addr) (n c n' c' : Nat) => Lib.run_eql_slice_nil w _ _ a n c n' c' Tryz.underlying27
    go_enter Tryz.func50, Tryz.ntmps50
    go_wp2_with fail
    go_ret
    exact ⟨_, rfl, Rs.nil _ _, Below.refl _ _⟩
  | some ad =>
    have HR := Lib.hid (h.below (w' := w.alloc (.cells #[] 54)) (by go_grown))
    clear h
    have q := fun (w : World) (a : Option Addr) (n c n' c' : Nat) => Lib.run_eql_slice_nil w _ _ a n c n' c' Tryz.underlying27
    go_enter Tryz.func50, Tryz.ntmps50
    go_wp2_with (refine rw_append (α := Nm) (l := []) rfl (.tmp 5) (.tmp 6) rfl rfl (Rs.empty w (Nat.le_refl _)) rfl HR.out (by simp; omega) (by rw [alloc_size]; omega) ?_; intro v' w' h1 h2 h3; have H1 := Lib.hid h1; have HB : Hid (Below w.heap.size w w') := Lib.hid ((show Below w.heap.size w (w.alloc (.cells #[] 54)) by go_grown).grown h2 (by rw [alloc_size]; omega) (fun j hj => by cases hj; exact Nat.le_refl _)); clear h1 h2 h3)
    go_ret
    exact ⟨v', rfl, H1.out, HB.out⟩
set_option maxHeartbeats 8000000 in
theorem cl_Bl {l : List Bl} {v : Value} {B : Nat} {w : World} (h : Rs w B v l) (hlen : l.length ≤ 1000) :
    Calls Tryz.prog 51 #[v] w fun e w' => ∃ v', e = .returned v' ∧ Rs w' w.heap.size v' l ∧ Below w.heap.size w w' := by
  obtain ⟨A, cap, rfl, hlc, hcap⟩ := h.any
  cases A with
  | none =>
    obtain ⟨rfl, _, rfl⟩ := h.nilled
    clear h
    have q := fun (w : World) (a : Option Addr) (n c n' c' : Nat) => Lib.run_eql_slice_nil w _ _ a n c n' c' Tryz.underlying28
    go_enter Tryz.func51, Tryz.ntmps51
    go_wp2_with fail
    go_ret
    exact ⟨_, rfl, Rs.nil _ _, Below.refl _ _⟩
  | some ad =>
    have HR := Lib.hid (h.below (w' := w.alloc (.cells #[] 59)) (by go_grown))
    clear h
    have q := fun (w : World) (a : Option Addr) (n c n' c' : Nat) => Lib.run_eql_slice_nil w _ _ a n c n' c' Tryz.underlying28
    go_enter Tryz.func51, Tryz.ntmps51
    go_wp2_with (refine rw_append (α := Bl) (l := []) rfl (.tmp 5) (.tmp 6) rfl rfl (Rs.empty w (Nat.le_refl _)) rfl HR.out (by simp; omega) (by rw [alloc_size]; omega) ?_; intro v' w' h1 h2 h3; have H1 := Lib.hid h1; have HB : Hid (Below w.heap.size w w') := Lib.hid ((show Below w.heap.size w (w.alloc (.cells #[] 59)) by go_grown).grown h2 (by rw [alloc_size]; omega) (fun j hj => by cases hj; exact Nat.le_refl _)); clear h1 h2 h3)
    go_ret
    exact ⟨v', rfl, H1.out, HB.out⟩
end Go.Proofs.YtokhnbdhcehonaaGreat
