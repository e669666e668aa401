/- index: slices.Equal. -/
import Derived.Test.YtokhnbdhcehonaaGreatSame
import Derived.Test.YtokhnbdhcehonaaGreatCl
import Derived.Test.YtokhnbdhcehonaaGreatMade
set_option linter.unusedSimpArgs false
set_option linter.unusedVariables false
namespace Go.Proofs.YtokhnbdhcehonaaGreat
open Go Go.RowKit Row
set_option maxRecDepth 100000
set_option maxHeartbeats 8000000 in
theorem equalq_Hd (a b : Hd) (w : World) : (Op.equalIn 10000 40 (.agg (arr a)) (.agg (arr b))).run Tryz.prog w = .ok (decide (a = b)) w := by
  by_cases h : a = b
  · subst h
    simp only [arr, cells, Hd.cells]
    go_simp
  · rw [decide_eq_false h]
    obtain ⟨a0, a1, a2⟩ := a
    obtain ⟨b0, b1, b2⟩ := b
    simp only [arr, cells, Hd.cells]
    go_simp
    intro h0 h1 h2
    exact h (by rw [h0, h1, bytes_ext h2])
theorem noGuardq40 : Tryz.prog.eqGuardType Tryz.prog.depth 40 = false := by kernel_rfl
theorem gives_neq_Hd {w : World} {o : Oper} {a : Act} {K : World → Prop} (x y : Operand) (t : TypeId) (ho : o.op = .binOp .neq 40 x y t) (p q : Hd) (hx : a.eval x = .agg (arr p)) (hy : a.eval y = .agg (arr q)) {b : Bool} (hb : (!decide (p = q)) = b) (hK : K w) : givesR Tryz.prog K (.bool b) ((execOp a.eval o).run Tryz.prog w) := by
  unfold execOp
  simp only [ho, hx, hy, Sem.run_bind, Sem.run_pure, Result.andThen_ok, run_eqGuard_agg (hm := noGuardq40), run_neq_struct, equalq_Hd, hb]
  exact ⟨rfl, hK⟩
set_option maxHeartbeats 8000000 in
theorem eqs_Hd {l m : List Hd} {v u : Value} {w : World} (h : Rs w 0 v l) (k : Rs w 0 u m) : Calls Tryz.prog 52 #[v, u] w fun r w' => r = .returned (.bool (decide (l = m))) ∧ Below w.heap.size w w' := by
  obtain ⟨A, cap, hv, hlc, hcap⟩ := h.any
  subst hv
  obtain ⟨A2, cap2, hv2, hlc2, hcap2⟩ := k.any
  subst hv2
  have HR := Lib.hid h
  have HR2 := Lib.hid k
  clear h k
  have hm63 : maxLen = 9223372036854775807 := rfl
  obtain ⟨r, hr⟩ : ∃ r, r = decide (l = m) := ⟨_, rfl⟩
  rw [← hr]
  have HQ := Lib.hid hr
  clear hr
  by_cases hlm : l.length = m.length
  · have hlmI : ((l.length : Int) == (m.length : Int)) = true := by simp [hlm]
    have HLM := Lib.hid hlm
    clear hlm
    go_enter Tryz.func52, Tryz.ntmps52
    go_wp2_with fail
    go_loopw [13] (fun i wq => ∃ k : Nat, k ≤ l.length ∧ i = .int .i64 k ∧ l.take k = m.take k ∧ Below w.heap.size w wq) (fun i _ => l.length - (intOf i).toNat)
    case atStart => exact ⟨0, by omega, rfl, by simp, Below.refl _ _⟩
    case round =>
      obtain ⟨k, hk, rfl, heq, hb⟩ := hrel
      have HB := Lib.hid hb
      have HEQ := Lib.hid heq
      clear hb heq
      by_cases hlt : k < l.length
      · have hltI : (k : Int) < (l.length : Int) := by omega
        have hlt2 : k < m.length := HLM.out ▸ hlt
        have hltI2 : (k : Int) < (m.length : Int) := by omega
        obtain ⟨b, off, cap', he, _, _⟩ := HR.out.shape (by omega)
        cases he
        obtain ⟨b2, off2, cap2', he2, _, _⟩ := HR2.out.shape (by omega)
        cases he2
        have HE : Hid (∀ wS, Below w.heap.size w wS → wS.rangeAt b (off + k * 3) (cells l[k])) := Lib.hid (fun wS hS => rangeAt_below (HR.out.range hlt) (HR.out.lt b rfl) hS)
        have HE2 : Hid (∀ wS, Below w.heap.size w wS → wS.rangeAt b2 (off2 + k * 3) (cells m[k])) := Lib.hid (fun wS hS => rangeAt_below (HR2.out.range hlt2) (HR2.out.lt b2 rfl) hS)
        have HN : Hid (l[k] = m[k] → l.take (k + 1) = m.take (k + 1)) := Lib.hid (fun e => by rw [List.take_succ_eq_append_getElem hlt, List.take_succ_eq_append_getElem hlt2, HEQ.out, e])
        have HF : Hid (l[k] ≠ m[k] → r = false) := Lib.hid (fun e => HQ.out.trans (decide_eq_false (fun h => e (by subst h; rfl))))
        obtain ⟨bq, hbq⟩ : ∃ bq, (!decide (l[k] = m[k])) = bq := ⟨_, rfl⟩
        have HBQ := Lib.hid hbq
        clear hbq
        go_wp2_with fail
        refine wp_region_flow2_lit [(0, false), (1, false), (2, false), (3, false), (4, false), (5, false), (6, false), (7, false), (8, false)] (fun wS => Below w.heap.size w wS) (by kernel_rfl) (by kernel_rfl) (by kernel_rfl) HB.out.drew ?_
        repeat (first | (refine' flow2_pass (o := _) rfl _ _; (focus rfl); simp only [Act.put, List.setIfInBounds_toArray, List.set_cons_zero, List.set_cons_succ]) | (refine' flow2_take (v := _) (o := _) rfl _ _ _; rotate_left; (focus rfl); (focus (intro wS hS; have hE := Ext.refl wS; (skip); go_simp; try (with_reducible (first | exact ⟨rfl, hS, hE⟩ | rfl)); done)); simp only [Act.put, List.setIfInBounds_toArray, List.set_cons_zero, List.set_cons_succ]))
        (refine flow2_take (v := .agg (arr l[k])) (o := _) rfl rfl (fun wS hS => gives_row rfl rfl (HE.out wS hS) ⟨hS, Ext.refl wS⟩) ?_; simp only [Act.put, List.setIfInBounds_toArray, List.set_cons_zero, List.set_cons_succ])
        repeat (first | (refine' flow2_pass (o := _) rfl _ _; (focus rfl); simp only [Act.put, List.setIfInBounds_toArray, List.set_cons_zero, List.set_cons_succ]) | (refine' flow2_take (v := _) (o := _) rfl _ _ _; rotate_left; (focus rfl); (focus (intro wS hS; have hE := Ext.refl wS; (skip); go_simp; try (with_reducible (first | exact ⟨rfl, hS, hE⟩ | rfl)); done)); simp only [Act.put, List.setIfInBounds_toArray, List.set_cons_zero, List.set_cons_succ]))
        (refine flow2_take (v := .agg (arr m[k])) (o := _) rfl rfl (fun wS hS => gives_row rfl rfl (HE2.out wS hS) ⟨hS, Ext.refl wS⟩) ?_; simp only [Act.put, List.setIfInBounds_toArray, List.set_cons_zero, List.set_cons_succ])
        (refine flow2_take (v := .bool bq) (o := _) rfl rfl (fun wS hS => gives_neq_Hd (.tmp 19) (.tmp 23) 40 rfl l[k] m[k] rfl rfl HBQ.out ⟨hS, Ext.refl wS⟩) ?_; simp only [Act.put, List.setIfInBounds_toArray, List.set_cons_zero, List.set_cons_succ])
        refine flow2_nil ?_
        intro wT hE hS
        have HT := Lib.hid hS
        clear hE hS
        cases bq with
        | false =>
          have HN2 := Lib.hid (HN.out (by simpa using HBQ.out))
          go_wp2_with fail
          go_roundw
          case rel => exact ⟨k + 1, by omega, by go_num, HN2.out, HT.out⟩
          case measure => simp [intOf]; omega
        | true =>
          obtain rfl := HF.out (by simpa using HBQ.out)
          go_wp2_with fail
          go_ret
          exact ⟨rfl, HT.out⟩
      · have hltI : ¬ (k : Int) < (l.length : Int) := by omega
        obtain rfl : r = true := HQ.out.trans (decide_eq_true (by
          have h := HEQ.out
          rw [show k = l.length by omega, List.take_length, HLM.out, List.take_length] at h
          exact h))
        go_wp2_with fail
        go_ret
        exact ⟨rfl, HB.out⟩
  · have hlmI : ((l.length : Int) == (m.length : Int)) = false := by simp; omega
    obtain rfl : r = false := HQ.out.trans (decide_eq_false (fun h => hlm (by rw [h])))
    clear hlm
    go_enter Tryz.func52, Tryz.ntmps52
    go_wp2_with fail
    go_ret
    exact ⟨rfl, Below.refl _ _⟩
set_option maxHeartbeats 8000000 in
theorem equalq_Fl (a b : Fl) (w : World) : (Op.equalIn 10000 50 (.agg (arr a)) (.agg (arr b))).run Tryz.prog w = .ok (decide (a = b)) w := by
  by_cases h : a = b
  · subst h
    simp only [arr, cells, Fl.cells, At.cells]
    go_simp
  · rw [decide_eq_false h]
    obtain ⟨u, a0, a1, a2, a3, a4, a5, a6, a7, a8, a9⟩ := a
    obtain ⟨v, b0, b1, b2, b3, b4, b5, b6, b7, b8, b9⟩ := b
    simp only [arr, cells, Fl.cells, At.cells]
    go_simp
    intro hu h0 h1 h2 h3 h4 h5 h6 h7 h8 h9
    exact h (by rw [bytes_ext hu, h0, h1, h2, h3, h4, h5, h6, h7, h8, h9])
theorem noGuardq50 : Tryz.prog.eqGuardType Tryz.prog.depth 50 = false := by kernel_rfl
theorem gives_neq_Fl {w : World} {o : Oper} {a : Act} {K : World → Prop} (x y : Operand) (t : TypeId) (ho : o.op = .binOp .neq 50 x y t) (p q : Fl) (hx : a.eval x = .agg (arr p)) (hy : a.eval y = .agg (arr q)) {b : Bool} (hb : (!decide (p = q)) = b) (hK : K w) : givesR Tryz.prog K (.bool b) ((execOp a.eval o).run Tryz.prog w) := by
  unfold execOp
  simp only [ho, hx, hy, Sem.run_bind, Sem.run_pure, Result.andThen_ok, run_eqGuard_agg (hm := noGuardq50), run_neq_struct, equalq_Fl, hb]
  exact ⟨rfl, hK⟩
set_option maxHeartbeats 8000000 in
theorem eqs_Fl {l m : List Fl} {v u : Value} {w : World} (h : Rs w 0 v l) (k : Rs w 0 u m) : Calls Tryz.prog 53 #[v, u] w fun r w' => r = .returned (.bool (decide (l = m))) ∧ Below w.heap.size w w' := by
  obtain ⟨A, cap, hv, hlc, hcap⟩ := h.any
  subst hv
  obtain ⟨A2, cap2, hv2, hlc2, hcap2⟩ := k.any
  subst hv2
  have HR := Lib.hid h
  have HR2 := Lib.hid k
  clear h k
  have hm63 : maxLen = 9223372036854775807 := rfl
  obtain ⟨r, hr⟩ : ∃ r, r = decide (l = m) := ⟨_, rfl⟩
  rw [← hr]
  have HQ := Lib.hid hr
  clear hr
  by_cases hlm : l.length = m.length
  · have hlmI : ((l.length : Int) == (m.length : Int)) = true := by simp [hlm]
    have HLM := Lib.hid hlm
    clear hlm
    go_enter Tryz.func53, Tryz.ntmps53
    go_wp2_with fail
    go_loopw [13] (fun i wq => ∃ k : Nat, k ≤ l.length ∧ i = .int .i64 k ∧ l.take k = m.take k ∧ Below w.heap.size w wq) (fun i _ => l.length - (intOf i).toNat)
    case atStart => exact ⟨0, by omega, rfl, by simp, Below.refl _ _⟩
    case round =>
      obtain ⟨k, hk, rfl, heq, hb⟩ := hrel
      have HB := Lib.hid hb
      have HEQ := Lib.hid heq
      clear hb heq
      by_cases hlt : k < l.length
      · have hltI : (k : Int) < (l.length : Int) := by omega
        have hlt2 : k < m.length := HLM.out ▸ hlt
        have hltI2 : (k : Int) < (m.length : Int) := by omega
        obtain ⟨b, off, cap', he, _, _⟩ := HR.out.shape (by omega)
        cases he
        obtain ⟨b2, off2, cap2', he2, _, _⟩ := HR2.out.shape (by omega)
        cases he2
        have HE : Hid (∀ wS, Below w.heap.size w wS → wS.rangeAt b (off + k * 11) (cells l[k])) := Lib.hid (fun wS hS => rangeAt_below (HR.out.range hlt) (HR.out.lt b rfl) hS)
        have HE2 : Hid (∀ wS, Below w.heap.size w wS → wS.rangeAt b2 (off2 + k * 11) (cells m[k])) := Lib.hid (fun wS hS => rangeAt_below (HR2.out.range hlt2) (HR2.out.lt b2 rfl) hS)
        have HN : Hid (l[k] = m[k] → l.take (k + 1) = m.take (k + 1)) := Lib.hid (fun e => by rw [List.take_succ_eq_append_getElem hlt, List.take_succ_eq_append_getElem hlt2, HEQ.out, e])
        have HF : Hid (l[k] ≠ m[k] → r = false) := Lib.hid (fun e => HQ.out.trans (decide_eq_false (fun h => e (by subst h; rfl))))
        obtain ⟨bq, hbq⟩ : ∃ bq, (!decide (l[k] = m[k])) = bq := ⟨_, rfl⟩
        have HBQ := Lib.hid hbq
        clear hbq
        go_wp2_with fail
        refine wp_region_flow2_lit [(0, false), (1, false), (2, false), (3, false), (4, false), (5, false), (6, false), (7, false), (8, false)] (fun wS => Below w.heap.size w wS) (by kernel_rfl) (by kernel_rfl) (by kernel_rfl) HB.out.drew ?_
        repeat (first | (refine' flow2_pass (o := _) rfl _ _; (focus rfl); simp only [Act.put, List.setIfInBounds_toArray, List.set_cons_zero, List.set_cons_succ]) | (refine' flow2_take (v := _) (o := _) rfl _ _ _; rotate_left; (focus rfl); (focus (intro wS hS; have hE := Ext.refl wS; (skip); go_simp; try (with_reducible (first | exact ⟨rfl, hS, hE⟩ | rfl)); done)); simp only [Act.put, List.setIfInBounds_toArray, List.set_cons_zero, List.set_cons_succ]))
        (refine flow2_take (v := .agg (arr l[k])) (o := _) rfl rfl (fun wS hS => gives_row rfl rfl (HE.out wS hS) ⟨hS, Ext.refl wS⟩) ?_; simp only [Act.put, List.setIfInBounds_toArray, List.set_cons_zero, List.set_cons_succ])
        repeat (first | (refine' flow2_pass (o := _) rfl _ _; (focus rfl); simp only [Act.put, List.setIfInBounds_toArray, List.set_cons_zero, List.set_cons_succ]) | (refine' flow2_take (v := _) (o := _) rfl _ _ _; rotate_left; (focus rfl); (focus (intro wS hS; have hE := Ext.refl wS; (skip); go_simp; try (with_reducible (first | exact ⟨rfl, hS, hE⟩ | rfl)); done)); simp only [Act.put, List.setIfInBounds_toArray, List.set_cons_zero, List.set_cons_succ]))
        (refine flow2_take (v := .agg (arr m[k])) (o := _) rfl rfl (fun wS hS => gives_row rfl rfl (HE2.out wS hS) ⟨hS, Ext.refl wS⟩) ?_; simp only [Act.put, List.setIfInBounds_toArray, List.set_cons_zero, List.set_cons_succ])
        (refine flow2_take (v := .bool bq) (o := _) rfl rfl (fun wS hS => gives_neq_Fl (.tmp 19) (.tmp 23) 50 rfl l[k] m[k] rfl rfl HBQ.out ⟨hS, Ext.refl wS⟩) ?_; simp only [Act.put, List.setIfInBounds_toArray, List.set_cons_zero, List.set_cons_succ])
        refine flow2_nil ?_
        intro wT hE hS
        have HT := Lib.hid hS
        clear hE hS
        cases bq with
        | false =>
          have HN2 := Lib.hid (HN.out (by simpa using HBQ.out))
          go_wp2_with fail
          go_roundw
          case rel => exact ⟨k + 1, by omega, by go_num, HN2.out, HT.out⟩
          case measure => simp [intOf]; omega
        | true =>
          obtain rfl := HF.out (by simpa using HBQ.out)
          go_wp2_with fail
          go_ret
          exact ⟨rfl, HT.out⟩
      · have hltI : ¬ (k : Int) < (l.length : Int) := by omega
        obtain rfl : r = true := HQ.out.trans (decide_eq_true (by
          have h := HEQ.out
          rw [show k = l.length by omega, List.take_length, HLM.out, List.take_length] at h
          exact h))
        go_wp2_with fail
        go_ret
        exact ⟨rfl, HB.out⟩
  · have hlmI : ((l.length : Int) == (m.length : Int)) = false := by simp; omega
    obtain rfl : r = false := HQ.out.trans (decide_eq_false (fun h => hlm (by rw [h])))
    clear hlm
    go_enter Tryz.func53, Tryz.ntmps53
    go_wp2_with fail
    go_ret
    exact ⟨rfl, Below.refl _ _⟩
set_option maxHeartbeats 8000000 in
theorem equalq_Nm (a b : Nm) (w : World) : (Op.equalIn 10000 54 (.agg (arr a)) (.agg (arr b))).run Tryz.prog w = .ok (decide (a = b)) w := by
  by_cases h : a = b
  · subst h
    simp only [arr, cells, Nm.cells]
    go_simp
  · rw [decide_eq_false h]
    obtain ⟨a0, a1, a2⟩ := a
    obtain ⟨b0, b1, b2⟩ := b
    simp only [arr, cells, Nm.cells]
    go_simp
    intro h0 h1 h2
    exact h (by rw [bytes_ext h0, bytes_ext h1, bytes_ext h2])
theorem noGuardq54 : Tryz.prog.eqGuardType Tryz.prog.depth 54 = false := by kernel_rfl
theorem gives_neq_Nm {w : World} {o : Oper} {a : Act} {K : World → Prop} (x y : Operand) (t : TypeId) (ho : o.op = .binOp .neq 54 x y t) (p q : Nm) (hx : a.eval x = .agg (arr p)) (hy : a.eval y = .agg (arr q)) {b : Bool} (hb : (!decide (p = q)) = b) (hK : K w) : givesR Tryz.prog K (.bool b) ((execOp a.eval o).run Tryz.prog w) := by
  unfold execOp
  simp only [ho, hx, hy, Sem.run_bind, Sem.run_pure, Result.andThen_ok, run_eqGuard_agg (hm := noGuardq54), run_neq_struct, equalq_Nm, hb]
  exact ⟨rfl, hK⟩
set_option maxHeartbeats 8000000 in
theorem eqs_Nm {l m : List Nm} {v u : Value} {w : World} (h : Rs w 0 v l) (k : Rs w 0 u m) : Calls Tryz.prog 54 #[v, u] w fun r w' => r = .returned (.bool (decide (l = m))) ∧ Below w.heap.size w w' := by
  obtain ⟨A, cap, hv, hlc, hcap⟩ := h.any
  subst hv
  obtain ⟨A2, cap2, hv2, hlc2, hcap2⟩ := k.any
  subst hv2
  have HR := Lib.hid h
  have HR2 := Lib.hid k
  clear h k
  have hm63 : maxLen = 9223372036854775807 := rfl
  obtain ⟨r, hr⟩ : ∃ r, r = decide (l = m) := ⟨_, rfl⟩
  rw [← hr]
  have HQ := Lib.hid hr
  clear hr
  by_cases hlm : l.length = m.length
  · have hlmI : ((l.length : Int) == (m.length : Int)) = true := by simp [hlm]
    have HLM := Lib.hid hlm
    clear hlm
    go_enter Tryz.func54, Tryz.ntmps54
    go_wp2_with fail
    go_loopw [13] (fun i wq => ∃ k : Nat, k ≤ l.length ∧ i = .int .i64 k ∧ l.take k = m.take k ∧ Below w.heap.size w wq) (fun i _ => l.length - (intOf i).toNat)
    case atStart => exact ⟨0, by omega, rfl, by simp, Below.refl _ _⟩
    case round =>
      obtain ⟨k, hk, rfl, heq, hb⟩ := hrel
      have HB := Lib.hid hb
      have HEQ := Lib.hid heq
      clear hb heq
      by_cases hlt : k < l.length
      · have hltI : (k : Int) < (l.length : Int) := by omega
        have hlt2 : k < m.length := HLM.out ▸ hlt
        have hltI2 : (k : Int) < (m.length : Int) := by omega
        obtain ⟨b, off, cap', he, _, _⟩ := HR.out.shape (by omega)
        cases he
        obtain ⟨b2, off2, cap2', he2, _, _⟩ := HR2.out.shape (by omega)
        cases he2
        have HE : Hid (∀ wS, Below w.heap.size w wS → wS.rangeAt b (off + k * 3) (cells l[k])) := Lib.hid (fun wS hS => rangeAt_below (HR.out.range hlt) (HR.out.lt b rfl) hS)
        have HE2 : Hid (∀ wS, Below w.heap.size w wS → wS.rangeAt b2 (off2 + k * 3) (cells m[k])) := Lib.hid (fun wS hS => rangeAt_below (HR2.out.range hlt2) (HR2.out.lt b2 rfl) hS)
        have HN : Hid (l[k] = m[k] → l.take (k + 1) = m.take (k + 1)) := Lib.hid (fun e => by rw [List.take_succ_eq_append_getElem hlt, List.take_succ_eq_append_getElem hlt2, HEQ.out, e])
        have HF : Hid (l[k] ≠ m[k] → r = false) := Lib.hid (fun e => HQ.out.trans (decide_eq_false (fun h => e (by subst h; rfl))))
        obtain ⟨bq, hbq⟩ : ∃ bq, (!decide (l[k] = m[k])) = bq := ⟨_, rfl⟩
        have HBQ := Lib.hid hbq
        clear hbq
        go_wp2_with fail
        refine wp_region_flow2_lit [(0, false), (1, false), (2, false), (3, false), (4, false), (5, false), (6, false), (7, false), (8, false)] (fun wS => Below w.heap.size w wS) (by kernel_rfl) (by kernel_rfl) (by kernel_rfl) HB.out.drew ?_
        repeat (first | (refine' flow2_pass (o := _) rfl _ _; (focus rfl); simp only [Act.put, List.setIfInBounds_toArray, List.set_cons_zero, List.set_cons_succ]) | (refine' flow2_take (v := _) (o := _) rfl _ _ _; rotate_left; (focus rfl); (focus (intro wS hS; have hE := Ext.refl wS; (skip); go_simp; try (with_reducible (first | exact ⟨rfl, hS, hE⟩ | rfl)); done)); simp only [Act.put, List.setIfInBounds_toArray, List.set_cons_zero, List.set_cons_succ]))
        (refine flow2_take (v := .agg (arr l[k])) (o := _) rfl rfl (fun wS hS => gives_row rfl rfl (HE.out wS hS) ⟨hS, Ext.refl wS⟩) ?_; simp only [Act.put, List.setIfInBounds_toArray, List.set_cons_zero, List.set_cons_succ])
        repeat (first | (refine' flow2_pass (o := _) rfl _ _; (focus rfl); simp only [Act.put, List.setIfInBounds_toArray, List.set_cons_zero, List.set_cons_succ]) | (refine' flow2_take (v := _) (o := _) rfl _ _ _; rotate_left; (focus rfl); (focus (intro wS hS; have hE := Ext.refl wS; (skip); go_simp; try (with_reducible (first | exact ⟨rfl, hS, hE⟩ | rfl)); done)); simp only [Act.put, List.setIfInBounds_toArray, List.set_cons_zero, List.set_cons_succ]))
        (refine flow2_take (v := .agg (arr m[k])) (o := _) rfl rfl (fun wS hS => gives_row rfl rfl (HE2.out wS hS) ⟨hS, Ext.refl wS⟩) ?_; simp only [Act.put, List.setIfInBounds_toArray, List.set_cons_zero, List.set_cons_succ])
        (refine flow2_take (v := .bool bq) (o := _) rfl rfl (fun wS hS => gives_neq_Nm (.tmp 19) (.tmp 23) 54 rfl l[k] m[k] rfl rfl HBQ.out ⟨hS, Ext.refl wS⟩) ?_; simp only [Act.put, List.setIfInBounds_toArray, List.set_cons_zero, List.set_cons_succ])
        refine flow2_nil ?_
        intro wT hE hS
        have HT := Lib.hid hS
        clear hE hS
        cases bq with
        | false =>
          have HN2 := Lib.hid (HN.out (by simpa using HBQ.out))
          go_wp2_with fail
          go_roundw
          case rel => exact ⟨k + 1, by omega, by go_num, HN2.out, HT.out⟩
          case measure => simp [intOf]; omega
        | true =>
          obtain rfl := HF.out (by simpa using HBQ.out)
          go_wp2_with fail
          go_ret
          exact ⟨rfl, HT.out⟩
      · have hltI : ¬ (k : Int) < (l.length : Int) := by omega
        obtain rfl : r = true := HQ.out.trans (decide_eq_true (by
          have h := HEQ.out
          rw [show k = l.length by omega, List.take_length, HLM.out, List.take_length] at h
          exact h))
        go_wp2_with fail
        go_ret
        exact ⟨rfl, HB.out⟩
  · have hlmI : ((l.length : Int) == (m.length : Int)) = false := by simp; omega
    obtain rfl : r = false := HQ.out.trans (decide_eq_false (fun h => hlm (by rw [h])))
    clear hlm
    go_enter Tryz.func54, Tryz.ntmps54
    go_wp2_with fail
    go_ret
    exact ⟨rfl, Below.refl _ _⟩
set_option maxHeartbeats 8000000 in
theorem equalq_Bl (a b : Bl) (w : World) : (Op.equalIn 10000 59 (.agg (arr a)) (.agg (arr b))).run Tryz.prog w = .ok (decide (a = b)) w := by
  by_cases h : a = b
  · subst h
    simp only [arr, cells, Bl.cells]
    go_simp
  · rw [decide_eq_false h]
    obtain ⟨a0, a1, a2⟩ := a
    obtain ⟨b0, b1, b2⟩ := b
    simp only [arr, cells, Bl.cells]
    go_simp
    intro h0 h1 h2
    exact h (by rw [bytes_ext h0, h1, h2])
theorem noGuardq59 : Tryz.prog.eqGuardType Tryz.prog.depth 59 = false := by kernel_rfl
theorem gives_neq_Bl {w : World} {o : Oper} {a : Act} {K : World → Prop} (x y : Operand) (t : TypeId) (ho : o.op = .binOp .neq 59 x y t) (p q : Bl) (hx : a.eval x = .agg (arr p)) (hy : a.eval y = .agg (arr q)) {b : Bool} (hb : (!decide (p = q)) = b) (hK : K w) : givesR Tryz.prog K (.bool b) ((execOp a.eval o).run Tryz.prog w) := by
  unfold execOp
  simp only [ho, hx, hy, Sem.run_bind, Sem.run_pure, Result.andThen_ok, run_eqGuard_agg (hm := noGuardq59), run_neq_struct, equalq_Bl, hb]
  exact ⟨rfl, hK⟩
set_option maxHeartbeats 8000000 in
theorem eqs_Bl {l m : List Bl} {v u : Value} {w : World} (h : Rs w 0 v l) (k : Rs w 0 u m) : Calls Tryz.prog 55 #[v, u] w fun r w' => r = .returned (.bool (decide (l = m))) ∧ Below w.heap.size w w' := by
  obtain ⟨A, cap, hv, hlc, hcap⟩ := h.any
  subst hv
  obtain ⟨A2, cap2, hv2, hlc2, hcap2⟩ := k.any
  subst hv2
  have HR := Lib.hid h
  have HR2 := Lib.hid k
  clear h k
  have hm63 : maxLen = 9223372036854775807 := rfl
  obtain ⟨r, hr⟩ : ∃ r, r = decide (l = m) := ⟨_, rfl⟩
  rw [← hr]
  have HQ := Lib.hid hr
  clear hr
  by_cases hlm : l.length = m.length
  · have hlmI : ((l.length : Int) == (m.length : Int)) = true := by simp [hlm]
    have HLM := Lib.hid hlm
    clear hlm
    go_enter Tryz.func55, Tryz.ntmps55
    go_wp2_with fail
    go_loopw [13] (fun i wq => ∃ k : Nat, k ≤ l.length ∧ i = .int .i64 k ∧ l.take k = m.take k ∧ Below w.heap.size w wq) (fun i _ => l.length - (intOf i).toNat)
    case atStart => exact ⟨0, by omega, rfl, by simp, Below.refl _ _⟩
    case round =>
      obtain ⟨k, hk, rfl, heq, hb⟩ := hrel
      have HB := Lib.hid hb
      have HEQ := Lib.hid heq
      clear hb heq
      by_cases hlt : k < l.length
      · have hltI : (k : Int) < (l.length : Int) := by omega
        have hlt2 : k < m.length := HLM.out ▸ hlt
        have hltI2 : (k : Int) < (m.length : Int) := by omega
        obtain ⟨b, off, cap', he, _, _⟩ := HR.out.shape (by omega)
        cases he
        obtain ⟨b2, off2, cap2', he2, _, _⟩ := HR2.out.shape (by omega)
        cases he2
        have HE : Hid (∀ wS, Below w.heap.size w wS → wS.rangeAt b (off + k * 3) (cells l[k])) := Lib.hid (fun wS hS => rangeAt_below (HR.out.range hlt) (HR.out.lt b rfl) hS)
        have HE2 : Hid (∀ wS, Below w.heap.size w wS → wS.rangeAt b2 (off2 + k * 3) (cells m[k])) := Lib.hid (fun wS hS => rangeAt_below (HR2.out.range hlt2) (HR2.out.lt b2 rfl) hS)
        have HN : Hid (l[k] = m[k] → l.take (k + 1) = m.take (k + 1)) := Lib.hid (fun e => by rw [List.take_succ_eq_append_getElem hlt, List.take_succ_eq_append_getElem hlt2, HEQ.out, e])
        have HF : Hid (l[k] ≠ m[k] → r = false) := Lib.hid (fun e => HQ.out.trans (decide_eq_false (fun h => e (by subst h; rfl))))
        obtain ⟨bq, hbq⟩ : ∃ bq, (!decide (l[k] = m[k])) = bq := ⟨_, rfl⟩
        have HBQ := Lib.hid hbq
        clear hbq
        go_wp2_with fail
        refine wp_region_flow2_lit [(0, false), (1, false), (2, false), (3, false), (4, false), (5, false), (6, false), (7, false), (8, false)] (fun wS => Below w.heap.size w wS) (by kernel_rfl) (by kernel_rfl) (by kernel_rfl) HB.out.drew ?_
        repeat (first | (refine' flow2_pass (o := _) rfl _ _; (focus rfl); simp only [Act.put, List.setIfInBounds_toArray, List.set_cons_zero, List.set_cons_succ]) | (refine' flow2_take (v := _) (o := _) rfl _ _ _; rotate_left; (focus rfl); (focus (intro wS hS; have hE := Ext.refl wS; (skip); go_simp; try (with_reducible (first | exact ⟨rfl, hS, hE⟩ | rfl)); done)); simp only [Act.put, List.setIfInBounds_toArray, List.set_cons_zero, List.set_cons_succ]))
        (refine flow2_take (v := .agg (arr l[k])) (o := _) rfl rfl (fun wS hS => gives_row rfl rfl (HE.out wS hS) ⟨hS, Ext.refl wS⟩) ?_; simp only [Act.put, List.setIfInBounds_toArray, List.set_cons_zero, List.set_cons_succ])
        repeat (first | (refine' flow2_pass (o := _) rfl _ _; (focus rfl); simp only [Act.put, List.setIfInBounds_toArray, List.set_cons_zero, List.set_cons_succ]) | (refine' flow2_take (v := _) (o := _) rfl _ _ _; rotate_left; (focus rfl); (focus (intro wS hS; have hE := Ext.refl wS; (skip); go_simp; try (with_reducible (first | exact ⟨rfl, hS, hE⟩ | rfl)); done)); simp only [Act.put, List.setIfInBounds_toArray, List.set_cons_zero, List.set_cons_succ]))
        (refine flow2_take (v := .agg (arr m[k])) (o := _) rfl rfl (fun wS hS => gives_row rfl rfl (HE2.out wS hS) ⟨hS, Ext.refl wS⟩) ?_; simp only [Act.put, List.setIfInBounds_toArray, List.set_cons_zero, List.set_cons_succ])
        (refine flow2_take (v := .bool bq) (o := _) rfl rfl (fun wS hS => gives_neq_Bl (.tmp 19) (.tmp 23) 59 rfl l[k] m[k] rfl rfl HBQ.out ⟨hS, Ext.refl wS⟩) ?_; simp only [Act.put, List.setIfInBounds_toArray, List.set_cons_zero, List.set_cons_succ])
        refine flow2_nil ?_
        intro wT hE hS
        have HT := Lib.hid hS
        clear hE hS
        cases bq with
        | false =>
          have HN2 := Lib.hid (HN.out (by simpa using HBQ.out))
          go_wp2_with fail
          go_roundw
          case rel => exact ⟨k + 1, by omega, by go_num, HN2.out, HT.out⟩
          case measure => simp [intOf]; omega
        | true =>
          obtain rfl := HF.out (by simpa using HBQ.out)
          go_wp2_with fail
          go_ret
          exact ⟨rfl, HT.out⟩
      · have hltI : ¬ (k : Int) < (l.length : Int) := by omega
        obtain rfl : r = true := HQ.out.trans (decide_eq_true (by
          have h := HEQ.out
          rw [show k = l.length by omega, List.take_length, HLM.out, List.take_length] at h
          exact h))
        go_wp2_with fail
        go_ret
        exact ⟨rfl, HB.out⟩
  · have hlmI : ((l.length : Int) == (m.length : Int)) = false := by simp; omega
    obtain rfl : r = false := HQ.out.trans (decide_eq_false (fun h => hlm (by rw [h])))
    clear hlm
    go_enter Tryz.func55, Tryz.ntmps55
    go_wp2_with fail
    go_ret
    exact ⟨rfl, Below.refl _ _⟩
end Go.Proofs.YtokhnbdhcehonaaGreat
/- index: Clone; Same. -/
namespace Go.Proofs.YtokhnbdhcehonaaGreat
open Go Go.RowKit Row
set_option maxRecDepth 100000
theorem Few.len {c : Ca} {m k : Nat} (h : Few c m) (hk : m ≤ k) : Few c k := h.up hk
set_option maxHeartbeats 16000000 in
theorem clone_any {c : Ca} {cv : Cv} {w : World} (h : CaAt w cv c) (hf : Few c 100) :
    Calls Tryz.prog 26 #[.agg (arr cv)] w fun r w' => ∃ cv', r = .returned (.agg (arr cv')) ∧ CaAt w' cv' c ∧ Rs w' w.heap.size cv'.b.v c.fs ∧ Below w.heap.size w w' := by
  obtain ⟨W, hW⟩ : ∃ W, W = (w.alloc (.cells (arr cv) 30)).alloc (.cells (arr (RowT.z : Cv)) (RowT.T Cv)) := ⟨_, rfl⟩
  have hb0 : Below w.heap.size w W := by rw [hW]; go_grown
  have HX : Hid (W.heap[w.heap.size]? = some (.cells (arr cv) 30)) := Lib.hid (by rw [hW]; exact heap_old_at (heap_alloc_new _ _))
  have HZ : Hid (W.heap[w.heap.size + 1]? = some (.cells (arr (RowT.z : Cv)) (RowT.T Cv))) := Lib.hid (by rw [hW]; exact heap_new_at _ _ (alloc_size _ _))
  have HCA := Lib.hid (h.below hb0)
  have HB := Lib.hid hb0
  have HFW := Lib.hid hf
  have HW := Lib.hid hW
  have HC : Hid (∀ wS, Below W.heap.size W wS → wS.cell? ⟨w.heap.size, 0, none⟩ = some cv.a.v ∧ wS.cell? ⟨w.heap.size, 1, none⟩ = some cv.b.v ∧ wS.cell? ⟨w.heap.size, 2, none⟩ = some cv.c.v ∧ wS.cell? ⟨w.heap.size, 3, none⟩ = some cv.d.v) := Lib.hid (fun wS hS => cv_cells ((hS.block _ (heap_lt HX.out)).trans HX.out))
  clear h hb0 hf hW
  go_enter Tryz.func26, Tryz.ntmps26
  go_wp2_with (refine rw_alloc (α := Cv) rfl rfl ?_)
  rw [← HW.out]
  simp only [alloc_size]
  refine E.wp_region_flow2_lit [(0, false), (1, false), (3, false), (4, false), (6, false), (7, false), (9, false), (10, false), (2, true), (5, true), (8, true), (11, true), (12, false), (13, true)] (fun wS => Below W.heap.size W wS) (by kernel_rfl) (by kernel_rfl) (by kernel_rfl) (Below.refl _ _).drew ?_
  repeat (first | (refine' E.flow2_pass (o := _) rfl _ _; (focus rfl); simp only [Act.put, List.setIfInBounds_toArray, List.set_cons_zero, List.set_cons_succ]) | (refine' E.flow2_take (v := _) (o := _) rfl _ _ _; rotate_left; (focus rfl); (focus (intro wS hS; have hE := Ext.refl wS; (obtain ⟨c0, c1, c2, c3⟩ := HC.out wS hS); go_simp; try (with_reducible (first | exact ⟨rfl, hS, hE⟩ | rfl)); done)); simp only [Act.put, List.setIfInBounds_toArray, List.set_cons_zero, List.set_cons_succ]))
  refine E.flow2_turn (o := _) rfl rfl ?_
  intro w1 hE hS K hK
  go_simp
  refine (cl_Hd (HCA.out.hs.below hS) (by have := HFW.out.hs; omega)).mono ?_
  rintro e w2 ⟨v1, rfl, hr1, hb1⟩
  have hS1 := hS.trans (hb1.mono hS.size)
  have H1 := Lib.hid (hr1.mono (Nat.le_trans HB.out.size hS.size))
  refine hK _ _ hS1 ?_
  clear hE hS hK K hb1 hr1 hS1
  simp only [Act.put, List.setIfInBounds_toArray, List.set_cons_zero, List.set_cons_succ]
  refine E.flow2_turn (o := _) rfl rfl ?_
  intro w3 hE hS K hK
  go_simp
  refine (cl_Fl (HCA.out.fs.below hS) (by have := HFW.out.fs; omega)).mono ?_
  rintro e w4 ⟨v2, rfl, hr1, hb1⟩
  have hS1 := hS.trans (hb1.mono hS.size)
  have H2 := Lib.hid (hr1.mono (Nat.le_trans HB.out.size hS.size))
  have H1b := Lib.hid ((H1.out.below hE).below hb1)
  refine hK _ _ hS1 ?_
  clear hE hS hK K hb1 hr1 hS1
  clear H1
  simp only [Act.put, List.setIfInBounds_toArray, List.set_cons_zero, List.set_cons_succ]
  refine E.flow2_turn (o := _) rfl rfl ?_
  intro w5 hE hS K hK
  go_simp
  refine (cl_Nm (HCA.out.ns.below hS) (by have := HFW.out.ns; omega)).mono ?_
  rintro e w6 ⟨v3, rfl, hr1, hb1⟩
  have hS1 := hS.trans (hb1.mono hS.size)
  have H3 := Lib.hid (hr1.mono (Nat.le_trans HB.out.size hS.size))
  have H1c := Lib.hid ((H1b.out.below hE).below hb1)
  have H2c := Lib.hid ((H2.out.below hE).below hb1)
  refine hK _ _ hS1 ?_
  clear hE hS hK K hb1 hr1 hS1
  clear H1b H2
  simp only [Act.put, List.setIfInBounds_toArray, List.set_cons_zero, List.set_cons_succ]
  refine E.flow2_turn (o := _) rfl rfl ?_
  intro w7 hE hS K hK
  go_simp
  refine (cl_Bl (HCA.out.bs.below hS) (by have := HFW.out.bs; omega)).mono ?_
  rintro e w8 ⟨v4, rfl, hr1, hb1⟩
  have hS1 := hS.trans (hb1.mono hS.size)
  have H4 := Lib.hid (hr1.mono (Nat.le_trans HB.out.size hS.size))
  have H1d := Lib.hid ((H1c.out.below hE).below hb1)
  have H2d := Lib.hid ((H2c.out.below hE).below hb1)
  have H3d := Lib.hid ((H3.out.below hE).below hb1)
  refine hK _ _ hS1 ?_
  clear hE hS hK K hb1 hr1 hS1
  clear H1c H2c H3
  simp only [Act.put, List.setIfInBounds_toArray, List.set_cons_zero, List.set_cons_succ]
  obtain ⟨A1, k1, hv1, _, _⟩ := H1d.out.any
  obtain ⟨A2, k2, hv2, _, _⟩ := H2d.out.any
  obtain ⟨A3, k3, hv3, _, _⟩ := H3d.out.any
  obtain ⟨A4, k4, hv4, _, _⟩ := H4.out.any
  subst hv1
  subst hv2
  subst hv3
  subst hv4
  repeat (first | (refine' E.flow2_pass (o := _) rfl _ _; (focus rfl); simp only [Act.put, List.setIfInBounds_toArray, List.set_cons_zero, List.set_cons_succ]) | (refine' E.flow2_take (v := _) (o := _) rfl _ _ _; rotate_left; (focus rfl); (focus (intro wS hS; have hE := Ext.refl wS; (skip); go_simp; try (with_reducible (first | exact ⟨rfl, hS, hE⟩ | rfl)); done)); simp only [Act.put, List.setIfInBounds_toArray, List.set_cons_zero, List.set_cons_succ]))
  refine E.flow2_last (o := _) rfl rfl ?_
  intro wX hE hS K hK
  refine turn_store (α := Cv) (.tmp 2) (.tmp 15) rfl (w.heap.size + 1) ⟨⟨A1, _, k1⟩, ⟨A2, _, k2⟩, ⟨A3, _, k3⟩, ⟨A4, _, k4⟩⟩ _ (arr_size _) rfl rfl ((hS.block _ (heap_lt HZ.out)).trans HZ.out) ?_
  intro w9 hb9 hg9 hs9
  refine hK _ _ ?_
  have HZX := Lib.hid ((hS.block _ (heap_lt HZ.out)).trans HZ.out)
  have H1e := Lib.hid ((H1d.out.below hE).grown hg9 HZX.out (by decide))
  have H2e := Lib.hid ((H2d.out.below hE).grown hg9 HZX.out (by decide))
  have H3e := Lib.hid ((H3d.out.below hE).grown hg9 HZX.out (by decide))
  have H4e := Lib.hid ((H4.out.below hE).grown hg9 HZX.out (by decide))
  have HC9 := Lib.hid hb9
  have HB9 := Lib.hid ((HB.out.trans (hS.mono HB.out.size)).grown hg9 (HB.out.trans (hS.mono HB.out.size)).size (fun j hj => by cases hj; exact Nat.le_succ _))
  clear hE hS hK K hb9 hg9 hs9 H1d H2d H3d H4 HZX
  simp only [Act.put, List.setIfInBounds_toArray, List.set_cons_zero, List.set_cons_succ]
  go_wp2_with fail
  (try simp only [Exit.inBlock, Exit.then])
  refine bodyPost_ret (res_row1 (α := Cv) Tryz.results26 _ _ (w.heap.size + 1) ⟨⟨A1, _, k1⟩, ⟨A2, _, k2⟩, ⟨A3, _, k3⟩, ⟨A4, _, k4⟩⟩ rfl HC9.out) rfl ?_
  exact ⟨_, rfl, ⟨H1e.out.mono (Nat.zero_le _), H2e.out.mono (Nat.zero_le _), H3e.out.mono (Nat.zero_le _), H4e.out.mono (Nat.zero_le _)⟩, H2e.out, HB9.out⟩
set_option maxHeartbeats 16000000 in
theorem isame_any {c d : Ca} {cv dv : Cv} {w : World} (h : CaAt w cv c) (k : CaAt w dv d) :
    Calls Tryz.prog 27 #[.agg (arr cv), .agg (arr dv)] w fun r w' => r = .returned (.bool (decide (c.hs = d.hs) && (decide (c.fs = d.fs) && (decide (c.ns = d.ns) && decide (c.bs = d.bs))))) ∧ Below w.heap.size w w' := by
  have hX : ((w.alloc (.cells (arr cv) 30)).alloc (.cells (arr dv) 30)).heap[w.heap.size]? = some (.cells (arr cv) 30) := heap_old_at (heap_alloc_new _ _)
  have hY : ((w.alloc (.cells (arr cv) 30)).alloc (.cells (arr dv) 30)).heap[w.heap.size + 1]? = some (.cells (arr dv) 30) := heap_new_at _ _ (alloc_size _ _)
  have hb0 : Below w.heap.size w ((w.alloc (.cells (arr cv) 30)).alloc (.cells (arr dv) 30)) := by go_grown
  obtain ⟨c0, c1, c2, c3⟩ := cv_cells hX
  obtain ⟨e0, e1, e2, e3⟩ := cv_cells hY
  have HC := Lib.hid (And.intro hX hY)
  have HB := Lib.hid hb0
  have HCA := Lib.hid h
  have HDA := Lib.hid k
  clear h k hX hY hb0
  obtain ⟨b1, h1⟩ : ∃ b, decide (c.hs = d.hs) = b := ⟨_, rfl⟩
  obtain ⟨b2, h2⟩ : ∃ b, decide (c.fs = d.fs) = b := ⟨_, rfl⟩
  obtain ⟨b3, h3⟩ : ∃ b, decide (c.ns = d.ns) = b := ⟨_, rfl⟩
  obtain ⟨b4, h4⟩ : ∃ b, decide (c.bs = d.bs) = b := ⟨_, rfl⟩
  have H1 := Lib.hid (fun W (hW : Below w.heap.size w W) => h1 ▸ eqs_Hd (HCA.out.hs.below hW) (HDA.out.hs.below hW))
  have H2 := Lib.hid (fun W (hW : Below w.heap.size w W) => h2 ▸ eqs_Fl (HCA.out.fs.below hW) (HDA.out.fs.below hW))
  have H3 := Lib.hid (fun W (hW : Below w.heap.size w W) => h3 ▸ eqs_Nm (HCA.out.ns.below hW) (HDA.out.ns.below hW))
  have H4 := Lib.hid (fun W (hW : Below w.heap.size w W) => h4 ▸ eqs_Bl (HCA.out.bs.below hW) (HDA.out.bs.below hW))
  rw [h1, h2, h3, h4]
  clear h1 h2 h3 h4
  cases b1 with
  | false =>
    go_enter Tryz.func27, Tryz.ntmps27
    go_wp2_with fail
    refine (H1.out _ HB.out).mono ?_
    rintro r w1 ⟨rfl, hb1⟩
    have HB1 := Lib.hid (HB.out.trans (hb1.mono HB.out.size))
    clear hb1
    go_wp2_with fail
    go_ret
    exact ⟨rfl, HB1.out⟩
  | true =>
  cases b2 with
  | false =>
    go_enter Tryz.func27, Tryz.ntmps27
    go_wp2_with fail
    refine (H1.out _ HB.out).mono ?_
    rintro r w1 ⟨rfl, hb1⟩
    have HB1 := Lib.hid (HB.out.trans (hb1.mono HB.out.size))
    obtain ⟨p0, p1, p2, p3⟩ := cv_cells ((hb1.block _ (heap_lt HC.out.1)).trans HC.out.1)
    obtain ⟨q0, q1, q2, q3⟩ := cv_cells ((hb1.block _ (heap_lt HC.out.2)).trans HC.out.2)
    clear hb1 c0 c1 c2 c3 e0 e1 e2 e3
    go_wp2_with fail
    refine (H2.out _ HB1.out).mono ?_
    rintro r w2 ⟨rfl, hb2⟩
    have HB2 := Lib.hid (HB1.out.trans (hb2.mono HB1.out.size))
    clear hb2 p0 p1 p2 p3 q0 q1 q2 q3
    go_wp2_with fail
    go_ret
    exact ⟨rfl, HB2.out⟩
  | true =>
  have H34 : ∀ b3' b4' : Bool, b3 = b3' → b4 = b4' → True := fun _ _ _ _ => trivial
  clear H34
  cases b3
  all_goals
    go_enter Tryz.func27, Tryz.ntmps27
    go_wp2_with fail
    refine (H1.out _ HB.out).mono ?_
    rintro r w1 ⟨rfl, hb1⟩
    have HB1 := Lib.hid (HB.out.trans (hb1.mono HB.out.size))
    have HC1 := Lib.hid (And.intro ((hb1.block _ (heap_lt HC.out.1)).trans HC.out.1) ((hb1.block _ (heap_lt HC.out.2)).trans HC.out.2))
    obtain ⟨p0, p1, p2, p3⟩ := cv_cells HC1.out.1
    obtain ⟨q0, q1, q2, q3⟩ := cv_cells HC1.out.2
    clear hb1 c0 c1 c2 c3 e0 e1 e2 e3
    go_wp2_with fail
    refine (H2.out _ HB1.out).mono ?_
    rintro r w2 ⟨rfl, hb2⟩
    have HB2 := Lib.hid (HB1.out.trans (hb2.mono HB1.out.size))
    have HC2 := Lib.hid (And.intro ((hb2.block _ (heap_lt HC1.out.1)).trans HC1.out.1) ((hb2.block _ (heap_lt HC1.out.2)).trans HC1.out.2))
    clear hb2 p0 p1 p2 p3 q0 q1 q2 q3
    obtain ⟨p0, p1, p2, p3⟩ := cv_cells HC2.out.1
    obtain ⟨q0, q1, q2, q3⟩ := cv_cells HC2.out.2
    go_wp2_with fail
    refine (H3.out _ HB2.out).mono ?_
    rintro r w3 ⟨rfl, hb3⟩
    have HB3 := Lib.hid (HB2.out.trans (hb3.mono HB2.out.size))
    have HC3 := Lib.hid (And.intro ((hb3.block _ (heap_lt HC2.out.1)).trans HC2.out.1) ((hb3.block _ (heap_lt HC2.out.2)).trans HC2.out.2))
    clear hb3 p0 p1 p2 p3 q0 q1 q2 q3
    obtain ⟨p0, p1, p2, p3⟩ := cv_cells HC3.out.1
    obtain ⟨q0, q1, q2, q3⟩ := cv_cells HC3.out.2
    go_wp2_with fail
    first
      | (go_ret; exact ⟨rfl, HB3.out⟩)
      | (refine (H4.out _ HB3.out).mono ?_
         rintro r w4 ⟨rfl, hb4⟩
         have HB4 := Lib.hid (HB3.out.trans (hb4.mono HB3.out.size))
         clear hb4
         go_wp2_with fail
         go_ret
         exact ⟨rfl, HB4.out⟩)
end Go.Proofs.YtokhnbdhcehonaaGreat
