/- ReplayStays: the plain law, and the walk. -/
import Derived.Test.YtigdpmbhflojcaaObj
import Derived.Test.YtigdpmbhflojcaaRef
import Derived.Test.YtigdpmbhflojcaaNil
import Derived.Test.YtigdpmbhflojcaaLarge
import Derived.Test.YtigdpmbhflojcaaKeeps
import Derived.Test.YtigdpmbhflojcaaFlow2
import Derived.Test.YtigdpmbhflojcaaProg
import Derived.WalkKit
import Derived.ProofKit
import Derived.Handy
import Derived.Lib.Hide
namespace Go.Proofs.Ytigdpmbhflojcaa
open Go Go.RowKit

/-! ### the plain law: what was kept stays -/
/-- what was answered to z is told -/
def Tells (z : Stp) (r : Bool) (x : St) : Prop := r = true → x.seq z.c = z.q ∧ x.body z.c = z.b
theorem new_seq (c : Int) : St.new.seq c = 0 := by unfold St.seq St.new; (repeat' split) <;> rfl
theorem may_new (z : Stp) : St.new.may z.c z.q z.b = decide (1 ≤ z.c ∧ z.c ≤ 4 ∧ 0 < z.q ∧ z.b.size ≤ 2048) := by unfold St.may; rw [new_seq]
theorem put_same (x : St) (c q : Int) (b : ByteArray) (h1 : 1 ≤ c) (h4 : c ≤ 4) : (x.put c q b).seq c = q ∧ (x.put c q b).body c = b := by
  have hc : c = 1 ∨ c = 2 ∨ c = 3 ∨ c = 4 := by omega
  rcases hc with rfl | rfl | rfl | rfl <;> exact ⟨rfl, rfl⟩
theorem put_other (x : St) (c d q : Int) (b : ByteArray) (h1 : 1 ≤ c) (h4 : c ≤ 4) (h : d ≠ c) : (x.put c q b).seq d = x.seq d ∧ (x.put c q b).body d = x.body d := by
  have hc : c = 1 ∨ c = 2 ∨ c = 3 ∨ c = 4 := by omega
  rcases hc with rfl | rfl | rfl | rfl <;> simp [St.put, St.seq, St.body, h]
theorem told_first (z : Stp) : Tells z (St.new.may z.c z.q z.b) (St.new.keep z.c z.q z.b) := by
  intro h
  have h' := h
  unfold St.may at h'
  have h' := of_decide_eq_true h'
  unfold St.keep
  rw [if_pos h]
  exact put_same _ _ _ _ h'.1 h'.2.1
theorem told_next {z y : Stp} {r : Bool} {x : St} (h : Tells z r x) (hy : y.c ≠ z.c ∨ y.q ≤ z.q) : Tells z r (x.keep y.c y.q y.b) := by
  intro hr
  obtain ⟨h1, h2⟩ := h hr
  unfold St.keep
  split
  · rename_i hm
    unfold St.may at hm
    have hm := of_decide_eq_true hm
    have hne : z.c ≠ y.c := by
      rcases hy with hy | hy
      · exact fun e => hy e.symm
      · intro e
        rw [← e, h1] at hm
        omega
    obtain ⟨k1, k2⟩ := put_other x y.c z.c y.q y.b hm.1 hm.2.1 hne
    exact ⟨k1.trans h1, k2.trans h2⟩
  · exact ⟨h1, h2⟩

theorem told_got {z : Stp} {x : St} {r : Bool} (h : Tells z r x) (hr : r = decide (1 ≤ z.c ∧ z.c ≤ 4 ∧ 0 < z.q ∧ z.b.size ≤ 2048)) (hrt : r = true := by rfl) : x.got z.c z.q = z.b ∧ x.has z.c z.q = true := by
  have hm := of_decide_eq_true (hr.symm.trans hrt)
  obtain ⟨h1, h2⟩ := h hrt
  have hh : x.has z.c z.q = true := by unfold St.has; exact decide_eq_true ⟨hm.1, hm.2.1, h1.symm, by omega⟩
  exact ⟨by unfold St.got; rw [if_pos hh]; exact h2, hh⟩

/-! ### memory -/
def zRow (z : Stp) : Array Value := #[.int .i64 z.c, .int .i64 z.q, .string z.b]
structure SX (W : World) (z : Stp) (w : World) : Prop where
  bl : Below W.heap.size W w
  bx : w.heap[W.heap.size]? = some (.cells (zRow z) 34)
structure SS (W : World) (z : Stp) (g : Nat) (x : St) (w : World) : Prop where
  bl : Below W.heap.size W w
  bx : w.heap[W.heap.size]? = some (.cells (zRow z) 34)
  obj : At w g x
  hg : W.heap.size < g
theorem SS.sx {W : World} {z : Stp} {g : Nat} {x : St} {w : World} (h : SS W z g x w) : SX W z w := ⟨h.bl, h.bx⟩
theorem SX.drew {W : World} {z : Stp} {w : World} (h : SX W z w) : SX W z w.drew := ⟨h.bl.drew, h.bx⟩
theorem SS.drew {W : World} {z : Stp} {g : Nat} {x : St} {w : World} (h : SS W z g x w) : SS W z g x w.drew := ⟨h.bl.drew, h.bx, h.obj, h.hg⟩
theorem SS.ext {W : World} {z : Stp} {g : Nat} {x : St} {w w' : World} (h : SS W z g x w) (hE : Ext w w') : SS W z g x w' := ⟨h.bl.trans (Below.mono hE h.bl.size), hE.keep h.bx, hE.keep h.obj, h.hg⟩
theorem SX.only {W : World} {z : Stp} {g : Nat} {w w' : World} (h : SX W z w) (ho : Only g w w') (hg : W.heap.size < g) : SX W z w' := ⟨h.bl.trans (ho.below (by omega)), (ho.block _ (by omega)).trans h.bx⟩
theorem zCells {W w : World} {z : Stp} (h : w.heap[W.heap.size]? = some (.cells (zRow z) 34)) : ∀ o, w.cell? ⟨W.heap.size, o, none⟩ = (#[.int .i64 z.c, .int .i64 z.q, .string z.b] : Array Value)[o]? := fun o => cell_at h o
theorem new_k (w : World) (o : Obj) {k : Nat} (hk : k = w.heap.size) : (w.alloc o).heap[k]? = some o := by rw [hk]; exact new_at w o
theorem one_step {w : World} {B : Nat} {z : Stp} {t : TypeId} {fr : Nat × Nat} (h : w.heap[B]? = some (.cells (zRow z) t fr)) : StepsAt w (some ⟨B, 0, none⟩) [z] := by
  intro _
  refine ⟨B, 0, rfl, some_lt h, fun i hi j v hj => ?_⟩
  have hi0 : i = 0 := by simpa using hi
  subst hi0
  simp only [List.map_cons, List.getElem_cons_zero] at hj
  unfold World.cell?
  rw [h]
  simp only [Nat.zero_mul, Nat.zero_add]
  have hjl : j < 3 := by
    have := (List.getElem?_eq_some_iff.1 hj).1
    simpa [Stp.row] using this
  have : j = 0 ∨ j = 1 ∨ j = 2 := by omega
  rcases this with rfl | rfl | rfl <;> simpa [Stp.row, zRow] using hj

set_option maxRecDepth 100000 in
set_option maxHeartbeats 1000000 in
theorem stays_walk (A : Option Addr) (L : List Stp) (cap : Nat) (hlen : L.length ≤ maxLen) (hb : ∀ x ∈ L, x.b.size ≤ maxLen) (z : Stp) (hz : z.b.size ≤ maxLen) (w : World) (hs : StepsAt w A L) :
    Calls Try.prog 4 #[.slice A L.length cap, .agg #[.int .i64 z.c, .int .i64 z.q, .string z.b]] w fun e w' => e = .returned (.bool true) ∧ Below w.heap.size w w' := by
  have hlarge : ∀ w', Below w.heap.size w w' → Calls Try.prog 6 #[.slice A L.length cap] w' (SomeB w') := fun w' hbl => large_any A L cap w' hlen (RowsAt.below hs (Nat.le_refl _) hbl) hb
  have hlarge1 : Calls Try.prog 6 #[.slice (some ⟨w.heap.size + 1, 0, none⟩) 1 1] ((w.alloc (.cells #[.int .i64 z.c, .int .i64 z.q, .string z.b] 34)).alloc (.cells #[.int .i64 z.c, .int .i64 z.q, .string z.b] 34)) (SomeB ((w.alloc (.cells #[.int .i64 z.c, .int .i64 z.q, .string z.b] 34)).alloc (.cells #[.int .i64 z.c, .int .i64 z.q, .string z.b] 34))) :=
    large_any (some ⟨w.heap.size + 1, 0, none⟩) [z] 1 _ (by simp [maxLen]) (one_step (t := 34) (fr := (0, 0)) (new_k (w.alloc (.cells #[.int .i64 z.c, .int .i64 z.q, .string z.b] 34)) _ (by simp))) (by simpa using hz)
  obtain ⟨r, hr⟩ : ∃ r, r = St.new.may z.c z.q z.b := ⟨_, rfl⟩
  obtain ⟨x0, hx0⟩ : ∃ x, x = St.new.keep z.c z.q z.b := ⟨_, rfl⟩
  have htell : Tells z r x0 := by rw [hr, hx0]; exact told_first z
  have hkeep0 : Calls Try.prog 10 #[.pointer (some ⟨w.heap.size + 1 + 1, 0, none⟩), .int .i64 z.c, .int .i64 z.q, .string z.b] (((w.alloc (.cells #[.int .i64 z.c, .int .i64 z.q, .string z.b] 34)).alloc (.cells #[.int .i64 z.c, .int .i64 z.q, .string z.b] 34)).alloc (.cells (objC St.new) 45)) fun e w' => e = .returned (.bool r) ∧ SS w z (w.heap.size + 1 + 1) x0 w' := by
    refine (keep_obj (w.heap.size + 1 + 1) St.new z.c z.q z.b _ (new_k ((w.alloc (.cells #[.int .i64 z.c, .int .i64 z.q, .string z.b] 34)).alloc (.cells #[.int .i64 z.c, .int .i64 z.q, .string z.b] 34)) _ (by simp))).mono ?_
    rintro e w' ⟨he, ho, hat⟩
    refine ⟨by rw [he, hr], ?_, ?_, by rw [hx0]; exact hat, by omega⟩
    · exact Below.trans (by go_grown) (ho.below (by omega))
    · rw [ho.block _ (by omega)]
      rw [Below.heap_alloc _ _ _ (by simp; omega), Below.heap_alloc _ _ _ (by simp)]
      exact new_at _ _
  rw [may_new] at hr
  unfold maxLen at hlen hb hz
  have HL := Lib.hid hlarge
  have HL1 := Lib.hid hlarge1
  have HK0 := Lib.hid hkeep0
  have HR := Lib.hid hr
  have HX0 := Lib.hid hx0
  have HT0 := Lib.hid htell
  have HS := Lib.hid hs
  have HB := Lib.hid hb
  clear hs hb hlarge hlarge1 hkeep0 hr hx0 htell
  go_enter Try.func4, Try.ntmps4
  go_wp2_with fail
  refine (HL.out _ (by go_grown)).mono ?_
  rintro e w1 ⟨b, rfl, rfl⟩
  cases b
  case true =>
    go_wp2_with fail
    refine (known_any _).mono ?_
    rintro e w4 ⟨rfl, hb4⟩
    go_wp2_with fail
    go_ret
    exact ⟨rfl, Below.trans (by go_grown) (hb4.mono (by simp))⟩
  case false =>
    go_wp2_with fail
    refine HL1.out.mono ?_
    rintro e w1 ⟨b, rfl, rfl⟩
    cases b
    case true =>
      go_wp2_with fail
      refine (known_any _).mono ?_
      rintro e w4 ⟨rfl, hb4⟩
      go_wp2_with fail
      go_ret
      exact ⟨rfl, Below.trans (by go_grown) (hb4.mono (by simp; omega))⟩
    case false =>
      go_wp2_with fail
      refine (new_any _).mono ?_
      rintro e w0 ⟨rfl, rfl⟩
      go_wp2_with fail
      refine HK0.out.mono ?_
      rintro e w2 ⟨rfl, hss⟩
      have HS0 := Lib.hid hss
      clear hss
      go_wp2_with fail
      go_loopw [7] (fun i wr => ∃ (k : Nat) (st : St), k ≤ L.length ∧ i = .int .i64 k ∧ SS w z (w.heap.size + 1 + 1) st wr ∧ Tells z r st) (fun i _ => L.length - (intOf i).toNat)
      case atStart => exact ⟨0, x0, by omega, rfl, HS0.out, HT0.out⟩
      case round =>
        obtain ⟨k, st, hk, rfl, hss, htl⟩ := hrel
        have HK := Lib.hid hss
        have HTL := Lib.hid htl
        clear hss htl
        by_cases hlt : k < L.length
        · obtain ⟨b, off, rfl, hbw, c0, c1, c2⟩ := HS.out.at_ hlt
          generalize L[k] = y at *
          have hst : StepCells w b off k y := fun w' hb => ⟨(hb.cell (p := ⟨b, off + k * 3, none⟩) hbw).trans c0, (hb.cell (p := ⟨b, off + k * 3 + 1, none⟩) hbw).trans c1, (hb.cell (p := ⟨b, off + k * 3 + 2, none⟩) hbw).trans c2⟩
          have HT := Lib.hid hst
          clear c0 c1 c2 hst hbw
          by_cases hcl : (y.c == z.c) = true
          · by_cases hsq : z.q < y.q
            · go_wp2_with fail
              refine wp_region_flow2_lit [(0, false), (1, false), (2, false), (3, false), (4, false), (5, false), (6, false), (7, false), (8, false), (9, false), (10, false), (11, false), (12, false), (13, false), (14, false), (15, false), (16, false), (17, false)] (SS w z (w.heap.size + 1 + 1) st) (by kernel_rfl) (by kernel_rfl) (by kernel_rfl) HK.out.drew ?_
              repeat (first | (refine' flow2_pass (o := _) rfl _ _; (focus rfl); simp only [Act.put, List.setIfInBounds_toArray, List.set_cons_zero, List.set_cons_succ]) | (refine' flow2_take (v := _) (o := _) rfl _ _ _; rotate_left; (focus rfl); (focus (intro wS hS; have hE := Ext.refl wS; (have f0 := (HT.out wS hS.bl).1; have f1 := (HT.out wS hS.bl).2.1; have f2 := (HT.out wS hS.bl).2.2; have f3 := zCells hS.bx); go_simp; try (with_reducible (first | exact ⟨rfl, hS, hE⟩ | rfl)); done)); simp only [Act.put, List.setIfInBounds_toArray, List.set_cons_zero, List.set_cons_succ]))
              refine flow2_nil ?_
              intro w8 hE hS
              have H8 := Lib.hid hS
              clear hE hS
              go_wp2_with fail
              go_roundw
              case rel => exact ⟨k + 1, _, by omega, by go_num, H8.out, HTL.out⟩
              case measure => simp [intOf]; omega
            · have hkept : Tells z r (st.keep y.c y.q y.b) := told_next HTL.out (.inr (by omega))
              have HKP := Lib.hid hkept
              clear hkept
              go_wp2_with fail
              refine wp_region_flow2_lit [(0, false), (1, false), (2, false), (3, false), (4, false), (5, false), (6, false), (7, false), (8, false), (9, false), (10, false), (11, false), (12, false), (13, false), (14, false), (15, false), (16, false), (17, false)] (SS w z (w.heap.size + 1 + 1) st) (by kernel_rfl) (by kernel_rfl) (by kernel_rfl) HK.out.drew ?_
              repeat (first | (refine' flow2_pass (o := _) rfl _ _; (focus rfl); simp only [Act.put, List.setIfInBounds_toArray, List.set_cons_zero, List.set_cons_succ]) | (refine' flow2_take (v := _) (o := _) rfl _ _ _; rotate_left; (focus rfl); (focus (intro wS hS; have hE := Ext.refl wS; (have f0 := (HT.out wS hS.bl).1; have f1 := (HT.out wS hS.bl).2.1; have f2 := (HT.out wS hS.bl).2.2; have f3 := zCells hS.bx); go_simp; try (with_reducible (first | exact ⟨rfl, hS, hE⟩ | rfl)); done)); simp only [Act.put, List.setIfInBounds_toArray, List.set_cons_zero, List.set_cons_succ]))
              refine flow2_nil ?_
              intro w8 hE hS
              have H8 := Lib.hid hS
              clear hE hS
              go_wp2_with fail
              refine wp_region_flow2_lit [(0, false), (1, false), (2, false), (3, false), (4, false), (5, false), (6, false), (7, false), (8, false), (9, false), (10, false), (11, false), (12, false), (13, false), (14, false), (15, false), (16, true)] (SX w z) (by kernel_rfl) (by kernel_rfl) (by kernel_rfl) H8.out.sx.drew ?_
              repeat (first | (refine' flow2_pass (o := _) rfl _ _; (focus rfl); simp only [Act.put, List.setIfInBounds_toArray, List.set_cons_zero, List.set_cons_succ]) | (refine' flow2_take (v := _) (o := _) rfl _ _ _; rotate_left; (focus rfl); (focus (intro wS hS; have hE := Ext.refl wS; (have f0 := (HT.out wS hS.bl).1; have f1 := (HT.out wS hS.bl).2.1; have f2 := (HT.out wS hS.bl).2.2; have f3 := zCells hS.bx); go_simp; try (with_reducible (first | exact ⟨rfl, hS, hE⟩ | rfl)); done)); simp only [Act.put, List.setIfInBounds_toArray, List.set_cons_zero, List.set_cons_succ]))
              (refine' flow2_turn (o := _) rfl _ _; (focus rfl); intro wT hE hS K hK; (have ho := hE.keep H8.out.drew.obj); go_simp)
              refine (keep_obj (w.heap.size + 1 + 1) st y.c y.q y.b wT ho).mono ?_
              rintro e w5 ⟨rfl, hon, hat⟩
              refine hK _ _ (hS.only hon H8.out.hg) ?_
              clear hK hE hS K ho hon
              simp only [Act.put, List.setIfInBounds_toArray, List.set_cons_zero, List.set_cons_succ]
              refine flow2_nil ?_
              intro w6 hE hS
              have H6 : SS w z (w.heap.size + 1 + 1) (st.keep y.c y.q y.b) w6 := ⟨hS.bl, hS.bx, hE.keep hat, H8.out.hg⟩
              have H6 := Lib.hid H6
              clear hE hS hat
              go_wp2_with fail
              go_roundw
              case rel => exact ⟨k + 1, _, by omega, by go_num, H6.out, HKP.out⟩
              case measure => simp [intOf]; omega
          · have hcl : (y.c == z.c) = false := by simpa using hcl
            have hkept : Tells z r (st.keep y.c y.q y.b) := told_next HTL.out (.inl (by simpa using hcl))
            have HKP := Lib.hid hkept
            clear hkept
            go_wp2_with fail
            refine wp_region_flow2_lit [(0, false), (1, false), (2, false), (3, false), (4, false), (5, false), (6, false), (7, false), (8, false), (9, false), (10, false), (11, false), (12, false), (13, false), (14, false), (15, false), (16, false), (17, false)] (SS w z (w.heap.size + 1 + 1) st) (by kernel_rfl) (by kernel_rfl) (by kernel_rfl) HK.out.drew ?_
            repeat (first | (refine' flow2_pass (o := _) rfl _ _; (focus rfl); simp only [Act.put, List.setIfInBounds_toArray, List.set_cons_zero, List.set_cons_succ]) | (refine' flow2_take (v := _) (o := _) rfl _ _ _; rotate_left; (focus rfl); (focus (intro wS hS; have hE := Ext.refl wS; (have f0 := (HT.out wS hS.bl).1; have f1 := (HT.out wS hS.bl).2.1; have f2 := (HT.out wS hS.bl).2.2; have f3 := zCells hS.bx); go_simp; try (with_reducible (first | exact ⟨rfl, hS, hE⟩ | rfl)); done)); simp only [Act.put, List.setIfInBounds_toArray, List.set_cons_zero, List.set_cons_succ]))
            refine flow2_nil ?_
            intro w8 hE hS
            have H8 := Lib.hid hS
            clear hE hS
            go_wp2_with fail
            refine wp_region_flow2_lit [(0, false), (1, false), (2, false), (3, false), (4, false), (5, false), (6, false), (7, false), (8, false), (9, false), (10, false), (11, false), (12, false), (13, false), (14, false), (15, false), (16, true)] (SX w z) (by kernel_rfl) (by kernel_rfl) (by kernel_rfl) H8.out.sx.drew ?_
            repeat (first | (refine' flow2_pass (o := _) rfl _ _; (focus rfl); simp only [Act.put, List.setIfInBounds_toArray, List.set_cons_zero, List.set_cons_succ]) | (refine' flow2_take (v := _) (o := _) rfl _ _ _; rotate_left; (focus rfl); (focus (intro wS hS; have hE := Ext.refl wS; (have f0 := (HT.out wS hS.bl).1; have f1 := (HT.out wS hS.bl).2.1; have f2 := (HT.out wS hS.bl).2.2; have f3 := zCells hS.bx); go_simp; try (with_reducible (first | exact ⟨rfl, hS, hE⟩ | rfl)); done)); simp only [Act.put, List.setIfInBounds_toArray, List.set_cons_zero, List.set_cons_succ]))
            (refine' flow2_turn (o := _) rfl _ _; (focus rfl); intro wT hE hS K hK; (have ho := hE.keep H8.out.drew.obj); go_simp)
            refine (keep_obj (w.heap.size + 1 + 1) st y.c y.q y.b wT ho).mono ?_
            rintro e w5 ⟨rfl, hon, hat⟩
            refine hK _ _ (hS.only hon H8.out.hg) ?_
            clear hK hE hS K ho hon
            simp only [Act.put, List.setIfInBounds_toArray, List.set_cons_zero, List.set_cons_succ]
            refine flow2_nil ?_
            intro w6 hE hS
            have H6 : SS w z (w.heap.size + 1 + 1) (st.keep y.c y.q y.b) w6 := ⟨hS.bl, hS.bx, hE.keep hat, H8.out.hg⟩
            have H6 := Lib.hid H6
            clear hE hS hat
            go_wp2_with fail
            go_roundw
            case rel => exact ⟨k + 1, _, by omega, by go_num, H6.out, HKP.out⟩
            case measure => simp [intOf]; omega
        · cases r
          case true =>
            have hm := of_decide_eq_true HR.out.symm
            obtain ⟨m1, m4, mq, mb⟩ := hm
            have mb' : (z.b.size : Int) ≤ 2048 := by omega
            obtain ⟨hgot, hhas⟩ := told_got HTL.out HR.out
            have hseq : st.seq z.c = z.q := (HTL.out rfl).1
            have hgo : ∀ w', At w' (w.heap.size + 1 + 1) st → Calls Try.prog 11 #[.pointer (some ⟨w.heap.size + 1 + 1, 0, none⟩), .int .i64 z.c, .int .i64 z.q] w' fun e w'' => e = .returned (.tuple #[.string z.b, .bool true]) ∧ w' = w'' := fun w' hat => by
              have := get_objB (w.heap.size + 1 + 1) st z.c z.q w' hat
              rw [hgot, hhas] at this
              exact this
            have hla : ∀ w', At w' (w.heap.size + 1 + 1) st → Calls Try.prog 13 #[.pointer (some ⟨w.heap.size + 1 + 1, 0, none⟩), .int .i64 z.c] w' fun e w'' => e = .returned (.int .i64 z.q) ∧ Below w'.heap.size w' w'' := fun w' hat => by
              have := last_objB (w.heap.size + 1 + 1) st z.c w' hat
              rw [hseq] at this
              exact this
            have HGO := Lib.hid hgo
            have HLA := Lib.hid hla
            clear hgo hla hgot hhas hseq
            have f9 := zCells HK.out.bx
            go_wp2_with fail
            refine (HGO.out wr HK.out.obj).mono ?_
            rintro e w7 ⟨rfl, rfl⟩
            clear f9
            go_wp2_with fail
            refine wp_region_flow2_lit [(0, false), (1, false), (2, false), (3, false), (4, false), (5, false), (6, false), (7, false), (8, false), (9, false), (10, false), (11, false), (12, false), (13, false), (14, false), (15, false), (16, false), (17, false), (18, false), (19, false), (20, false), (21, false), (22, false), (23, false), (24, false), (25, false), (26, false), (27, false), (28, false), (29, false), (30, false), (31, false), (32, false), (33, false), (34, false), (35, false), (36, false), (37, false), (38, false), (39, false), (40, false), (41, false), (42, false), (43, false), (44, false), (45, false), (46, false)] (SS w z (w.heap.size + 1 + 1) st) (by kernel_rfl) (by kernel_rfl) (by kernel_rfl) HK.out.drew ?_
            repeat (first | (refine' flow2_pass (o := _) rfl _ _; (focus rfl); simp only [Act.put, List.setIfInBounds_toArray, List.set_cons_zero, List.set_cons_succ]) | (refine' flow2_take (v := _) (o := _) rfl _ _ _; rotate_left; (focus rfl); (focus (intro wS hS; have hE := Ext.refl wS; (have f3 := zCells hS.bx); go_simp; try (with_reducible (first | exact ⟨rfl, hS, hE⟩ | rfl)); done)); simp only [Act.put, List.setIfInBounds_toArray, List.set_cons_zero, List.set_cons_succ]))
            (refine' flow2_take (v := _) (o := _) rfl _ _ _; rotate_left; (focus rfl); (focus (intro wS hS; go_simp; refine (HLA.out _ hS.obj).mono ?_; rintro e w' ⟨rfl, hb⟩; refine ⟨?_, hS.ext hb, hb⟩; rfl)); simp only [Act.put, List.setIfInBounds_toArray, List.set_cons_zero, List.set_cons_succ])
            repeat (first | (refine' flow2_pass (o := _) rfl _ _; (focus rfl); simp only [Act.put, List.setIfInBounds_toArray, List.set_cons_zero, List.set_cons_succ]) | (refine' flow2_take (v := _) (o := _) rfl _ _ _; rotate_left; (focus rfl); (focus (intro wS hS; have hE := Ext.refl wS; (have f3 := zCells hS.bx); go_simp; try (with_reducible (first | exact ⟨rfl, hS, hE⟩ | rfl)); done)); simp only [Act.put, List.setIfInBounds_toArray, List.set_cons_zero, List.set_cons_succ]))
            (refine' flow2_take (v := _) (o := _) rfl _ _ _; rotate_left; (focus rfl); (focus (intro wS hS; go_simp; refine (known_any _).mono ?_; rintro e w' ⟨rfl, hb⟩; refine ⟨?_, hS.ext hb, hb⟩; rfl)); simp only [Act.put, List.setIfInBounds_toArray, List.set_cons_zero, List.set_cons_succ])
            repeat (first | (refine' flow2_pass (o := _) rfl _ _; (focus rfl); simp only [Act.put, List.setIfInBounds_toArray, List.set_cons_zero, List.set_cons_succ]) | (refine' flow2_take (v := _) (o := _) rfl _ _ _; rotate_left; (focus rfl); (focus (intro wS hS; have hE := Ext.refl wS; (have f3 := zCells hS.bx); go_simp; try (with_reducible (first | exact ⟨rfl, hS, hE⟩ | rfl)); done)); simp only [Act.put, List.setIfInBounds_toArray, List.set_cons_zero, List.set_cons_succ]))
            refine flow2_nil ?_
            intro w9 hE hS
            have HB9 := Lib.hid hS.bl
            clear hE hS
            go_wp2_with fail
            go_ret
            exact ⟨rfl, HB9.out⟩
          case false =>
            have hm : ¬ (1 ≤ z.c ∧ z.c ≤ 4 ∧ 0 < z.q ∧ z.b.size ≤ 2048) := of_decide_eq_false HR.out.symm
            have f9 := zCells HK.out.bx
            go_wp2_with fail
            refine (get_objB (w.heap.size + 1 + 1) st z.c z.q wr HK.out.obj).mono ?_
            rintro e w7 ⟨rfl, rfl⟩
            clear f9
            go_wp2_with fail
            refine wp_region_flow2_lit [(0, false), (1, false), (2, false), (3, false), (4, false), (5, false), (6, false), (7, false), (8, false), (9, false), (10, false), (11, false), (12, false), (13, false), (14, false), (15, false), (16, false), (17, false), (18, false), (19, false), (20, false), (21, false), (22, false), (23, false), (24, false), (25, false), (26, false), (27, false), (28, false), (29, false), (30, false), (31, false), (32, false), (33, false), (34, false), (35, false), (36, false), (37, false), (38, false), (39, false), (40, false), (41, false), (42, false), (43, false), (44, false), (45, false), (46, false)] (SS w z (w.heap.size + 1 + 1) st) (by kernel_rfl) (by kernel_rfl) (by kernel_rfl) HK.out.drew ?_
            have hcases : ¬ 1 ≤ z.c ∨ (1 ≤ z.c ∧ ¬ z.c ≤ 4) ∨ (1 ≤ z.c ∧ z.c ≤ 4 ∧ ¬ 0 < z.q) ∨ (1 ≤ z.c ∧ z.c ≤ 4 ∧ 0 < z.q ∧ ¬ (z.b.size : Int) ≤ 2048) := by omega
            clear hm
            have main : ∀ V : Prop, V → V := fun _ h => h
            clear main
            rcases hcases with h1 | ⟨h1, h2⟩ | ⟨h1, h2, h3⟩ | ⟨h1, h2, h3, h4⟩
            all_goals
              repeat (first | (refine' flow2_pass (o := _) rfl _ _; (focus rfl); simp only [Act.put, List.setIfInBounds_toArray, List.set_cons_zero, List.set_cons_succ]) | (refine' flow2_take (v := _) (o := _) rfl _ _ _; rotate_left; (focus rfl); (focus (intro wS hS; have hE := Ext.refl wS; (have f3 := zCells hS.bx); go_simp; try (with_reducible (first | exact ⟨rfl, hS, hE⟩ | rfl)); done)); simp only [Act.put, List.setIfInBounds_toArray, List.set_cons_zero, List.set_cons_succ]))
              (refine' flow2_take (v := _) (o := _) rfl _ _ _; rotate_left; (focus rfl); (focus (intro wS hS; go_simp; refine (known_any _).mono ?_; rintro e w' ⟨rfl, hb⟩; refine ⟨?_, hS.ext hb, hb⟩; rfl)); simp only [Act.put, List.setIfInBounds_toArray, List.set_cons_zero, List.set_cons_succ])
              repeat (first | (refine' flow2_pass (o := _) rfl _ _; (focus rfl); simp only [Act.put, List.setIfInBounds_toArray, List.set_cons_zero, List.set_cons_succ]) | (refine' flow2_take (v := _) (o := _) rfl _ _ _; rotate_left; (focus rfl); (focus (intro wS hS; have hE := Ext.refl wS; (have f3 := zCells hS.bx); go_simp; try (with_reducible (first | exact ⟨rfl, hS, hE⟩ | rfl)); done)); simp only [Act.put, List.setIfInBounds_toArray, List.set_cons_zero, List.set_cons_succ]))
              refine flow2_nil ?_
              intro w9 hE hS
              have HB9 := Lib.hid hS.bl
              clear hE hS
              go_wp2_with fail
              go_ret
              exact ⟨rfl, HB9.out⟩
end Go.Proofs.Ytigdpmbhflojcaa
