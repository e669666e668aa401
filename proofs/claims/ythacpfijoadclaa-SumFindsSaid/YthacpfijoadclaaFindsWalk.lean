/- SumFinds: the walk. -/
import Derived.Test.YthacpfijoadclaaFinds
import Derived.Deep.RegionLaw
namespace Go.Proofs.Ythacpfijoadclaa
open Go Go.RowKit Go.ChangeShapes Go.WideShapes Go.ChangeAt

/-- an array by value, opened -/
theorem array_open {P : Program} {H : Type} {enc : TypeId × Value → H} {w : World} {base : Nat} {spare : Nat → Bool} {held : Bool} {r : Reach} {b0 : Nat} {t : TypeId} {n : Nat} {e : TypeId} {d : Nat} {ks : List Nat} {v : Value} {x : DataW H} {p : List MemPlace} (ht : P.underlying t = some (.array n e)) (hk : flatKinds P d t = some ks)
    (hv : Value.okWide P w r b0 t v) (h : DataW.Trod enc P w base spare held t v x p) : ∃ vs : List Value, v = .agg vs.toArray ∧ Typed ks vs := by
  simp only [Value.okWide, ht] at hv
  obtain ⟨cs, rfl, _⟩ := hv
  obtain ⟨fuel, hf⟩ := h
  exact ⟨cs.toList, by simp, typed_of_trod d t ks fuel cs.toList _ hk (by simpa [Value.cells] using hf)⟩
structure Quad where
  a : UInt8
  b : UInt8
  c : UInt8
  d : UInt8
def Quad.row (q : Quad) : List Value := [.int .u8 (q.a.toNat : Int), .int .u8 (q.b.toNat : Int), .int .u8 (q.c.toNat : Int), .int .u8 (q.d.toNat : Int)]
theorem quad_of_typed {vs : List Value} (h : Typed [3, 3, 3, 3] vs) : ∃ q : Quad, vs = q.row ∧ True := by
  match vs, h with
  | [v0, v1, v2, v3], ⟨h0, h1, h2, h3, _⟩ =>
    cases v0 <;> simp [leafOk] at h0
    cases v1 <;> simp [leafOk] at h1
    cases v2 <;> simp [leafOk] at h2
    cases v3 <;> simp [leafOk] at h3
    obtain ⟨rfl, h0⟩ := h0
    obtain ⟨rfl, h1⟩ := h1
    obtain ⟨rfl, h2⟩ := h2
    obtain ⟨rfl, h3⟩ := h3
    obtain ⟨x, rfl⟩ := byte_of h0
    obtain ⟨y, rfl⟩ := byte_of h1
    obtain ⟨z, rfl⟩ := byte_of h2
    obtain ⟨u, rfl⟩ := byte_of h3
    exact ⟨⟨x, y, z, u⟩, rfl, trivial⟩
def Quad.at_ (q : Quad) (i : Nat) : UInt8 := [q.a, q.b, q.c, q.d].getD i 0
theorem quad_cell {q : Quad} {i : Nat} (h : i < 4) : q.row.toArray[i]? = some (.int .u8 ((q.at_ i).toNat : Int)) := by
  match i, h with
  | 0, _ => rfl
  | 1, _ => rfl
  | 2, _ => rfl
  | 3, _ => rfl

/-- bytes at the head of block g -/
def Bs (w : World) (g : Nat) (l : List UInt8) : Prop := ∃ C lo hi, w.heap[g]? = some (.cells C 5 (lo, hi)) ∧ l.length ≤ lo ∧ ∀ j (h : j < l.length), C[j]? = some (.int .u8 (l[j].toNat : Int))
theorem Bs.cell {w : World} {g : Nat} {l : List UInt8} (h : Bs w g l) {j : Nat} (hj : j < l.length) : w.cell? ⟨g, j, none⟩ = some (.int .u8 (l[j].toNat : Int)) := by
  obtain ⟨C, lo, hi, hh, _, hc⟩ := h
  unfold World.cell?
  simp [hh, hc j hj]
theorem Bs.froz {w : World} {g : Nat} {l : List UInt8} (h : Bs w g l) {j : Nat} (hj : j < l.length) : w.frozen? ⟨g, j, none⟩ = false := by
  obtain ⟨C, lo, hi, hh, hlo, _⟩ := h
  unfold World.frozen?
  simp only [hh]
  simp
  intro h1
  omega
theorem Bs.below {w w' : World} {g : Nat} {l : List UInt8} (h : Bs w g l) (hb : Below w.heap.size w w') : Bs w' g l := by
  obtain ⟨C, lo, hi, hh, hlo, hc⟩ := h
  exact ⟨C, lo, hi, (hb.block g (heap_lt hh)).trans hh, hlo, hc⟩
theorem Bs.set {w : World} {g : Nat} {l : List UInt8} (h : Bs w g l) (j : Nat) (x : UInt8) : Bs (w.setCell ⟨g, j, none⟩ (.int .u8 (x.toNat : Int))) g (l.set j x) := by
  obtain ⟨C, lo, hi, hh, hlo, hc⟩ := h
  refine ⟨C.setIfInBounds j (.int .u8 (x.toNat : Int)), lo, hi, ?_, by simpa using hlo, fun i hi' => ?_⟩
  · unfold World.setCell
    simp [Array.getElem?_modify, hh]
  · have hil : i < l.length := by simpa using hi'
    have h1 := hc i hil
    have h2 : i < C.size := (Array.getElem?_eq_some_iff.1 h1).1
    by_cases hij : j = i
    · subst hij
      rw [Array.getElem?_setIfInBounds_self_of_lt h2]
      simp
    · rw [Array.getElem?_setIfInBounds_ne hij, h1]
      simp [List.getElem_set_ne hij]
theorem Bs.conv {w : World} {g cap : Nat} {l : List UInt8} (h : Bs w g l) : (convert 29 9 (.slice (some ⟨g, 0, none⟩) l.length cap)).run Try.prog w = .ok (.string ⟨l.toArray⟩) w := by
  refine run_convert_bytes_back (P := Try.prog) w 29 9 5 ⟨g, 0, none⟩ cap l Try.underlying29 Try.underlying5 Try.underlying9 fun j hj => ?_
  rw [addr_add, Nat.zero_add]
  exact h.cell hj
theorem bs_made (w : World) (s : ByteArray) (cap : Nat) (hcap : s.size ≤ cap) : Bs (w.alloc (.cells (bytesRow s cap) 5 ((bytesRow s cap).size, (bytesRow s cap).size + 1))) w.heap.size s.data.toList := by
  have hsz : s.data.toList.length = s.size := rfl
  refine ⟨bytesRow s cap, _, _, heap_alloc_new w _, ?_, fun j hj => ?_⟩
  · rw [hsz]
    unfold bytesRow
    simp
  · unfold bytesRow
    have hj' : j < s.data.size := by simpa using hj
    rw [Array.getElem?_append_left (by simpa using hj'), Array.getElem?_map, Array.getElem?_eq_getElem hj']
    rfl

theorem finds_big (a : ByteArray) (i : Int) (q : Quad) (w : World) (h : (1000 : Int) < a.size ∨ i < 0 ∨ (a.size : Int) ≤ i) :
    Calls Try.prog 4 #[.string a, .int .i64 i, .agg q.row.toArray] w fun e w' => e = .returned (.bool true) ∧ Below w.heap.size w w' := by
  have HK := Lib.hid (fun w' => known_any w')
  have e : q.row.toArray = #[.int .u8 (q.a.toNat : Int), .int .u8 (q.b.toNat : Int), .int .u8 (q.c.toNat : Int), .int .u8 (q.d.toNat : Int)] := rfl
  rw [e]
  by_cases h1 : (1000 : Int) < a.size
  · clear h
    go_enter Try.func4, Try.ntmps4
    go_wp2_with fail
    refine (HK.out _).mono ?_
    rintro e w' ⟨rfl, hb⟩
    go_wp2_with fail
    go_ret
    exact ⟨rfl, Below.trans (by go_grown) (hb.mono (by simp))⟩
  · by_cases h2 : i < 0
    · clear h
      go_enter Try.func4, Try.ntmps4
      go_wp2_with fail
      refine (HK.out _).mono ?_
      rintro e w' ⟨rfl, hb⟩
      go_wp2_with fail
      go_ret
      exact ⟨rfl, Below.trans (by go_grown) (hb.mono (by simp))⟩
    · have h3 : (a.size : Int) ≤ i := by omega
      clear h
      go_enter Try.func4, Try.ntmps4
      go_wp2_with fail
      refine (HK.out _).mono ?_
      rintro e w' ⟨rfl, hb⟩
      go_wp2_with fail
      go_ret
      exact ⟨rfl, Below.trans (by go_grown) (hb.mono (by simp))⟩

set_option maxRecDepth 100000 in
set_option maxHeartbeats 8000000 in
theorem finds_main (P M S : List UInt8) (hM : M.length = 4 ∨ (M.length < 4 ∧ S = [])) (hM0 : 0 < M.length) (q : Quad) (w : World) (hsz : (P ++ M ++ S).length ≤ 1000) :
    Calls Try.prog 4 #[.string ⟨(P ++ M ++ S).toArray⟩, .int .i64 (P.length : Nat), .agg q.row.toArray] w fun e w' => e = .returned (.bool true) ∧ Below w.heap.size w w' := by
  have HK := Lib.hid (fun w' => known_any w')
  have e : q.row.toArray = #[.int .u8 (q.a.toNat : Int), .int .u8 (q.b.toNat : Int), .int .u8 (q.c.toNat : Int), .int .u8 (q.d.toNat : Int)] := rfl
  obtain ⟨a, ha⟩ : ∃ a : ByteArray, a = ⟨(P ++ M ++ S).toArray⟩ := ⟨_, rfl⟩
  have han : a.size = (P ++ M ++ S).length := by rw [ha]; show (P ++ M ++ S).toArray.size = _; simp
  have hal : a.data.toList = P ++ M ++ S := by rw [ha]
  have hn : (P ++ M ++ S).length = P.length + M.length + S.length := by simp; omega
  obtain ⟨W0, hW0⟩ : ∃ W0, W0 = w.alloc (.cells q.row.toArray 28) := ⟨_, rfl⟩
  obtain ⟨cap, hcap⟩ : ∃ c, c = grownCap W0 a.size 0 5 := ⟨_, rfl⟩
  have hcap' : a.size ≤ cap := by rw [hcap]; exact grownCap_ge _ _ _ _
  obtain ⟨W2, hW2⟩ : ∃ W2, W2 = W0.drew.alloc (.cells (bytesRow a cap) 5 ((bytesRow a cap).size, (bytesRow a cap).size + 1)) := ⟨_, rfl⟩
  have hbs := run_bytes_of_string (P := Try.prog) W0 9 29 5 a Try.underlying9 Try.underlying29 Try.underlying5
  rw [← hcap, ← hW2] at hbs
  have hg : W0.heap.size = w.heap.size + 1 := by rw [hW0]; exact alloc_size _ _
  rw [hg] at hbs
  have hB2 : Bs W2 (w.heap.size + 1) (P ++ M ++ S) := by
    have := bs_made W0.drew a cap hcap'
    rw [← hW2, hal, show W0.drew.heap.size = w.heap.size + 1 from hg] at this
    exact this
  have hX2 : W2.heap[w.heap.size]? = some (.cells q.row.toArray 28) := by
    rw [hW2, alloc_old _ _ _ (by show w.heap.size < W0.heap.size; rw [hg]; omega), hW0]
    exact heap_alloc_new w _
  have hL2 : Below w.heap.size w W2 := by rw [hW2, hW0]; go_grown
  have H2 := Lib.hid (And.intro hB2 (And.intro hX2 hL2))
  have HA := Lib.hid (And.intro ha (And.intro hM (And.intro hM0 (han.trans hn))))
  rw [e] at hW0 ⊢
  rw [hW0] at hbs
  rw [← ha]
  have hsz' : ¬ (1000 : Int) < (a.size : Int) := by omega
  have hat0 : ¬ ((P.length : Nat) : Int) < 0 := by omega
  have hat1 : ¬ ((a.size : Nat) : Int) ≤ ((P.length : Nat) : Int) := by omega
  clear hcap hcap' hW2 hg hB2 hX2 hL2 hal hW0 ha hM hM0 e han hn hsz
  go_enter Try.func4, Try.ntmps4
  go_wp2_with fail
  go_loopw [8, 9] (fun o i wr => ∃ k : Nat, k ≤ M.length ∧ i = .int .i64 k ∧ o = .bool (anyX q.at_ k) ∧ Bs wr (w.heap.size + 1) (P ++ xorL M q.at_ k ++ S) ∧ wr.heap[w.heap.size]? = some (.cells q.row.toArray 28) ∧ Below w.heap.size w wr) (fun _ i _ => M.length - (intOf i).toNat)
  case atStart => exact ⟨0, by omega, rfl, rfl, by rw [xorL_zero]; exact H2.out.1, H2.out.2.1, H2.out.2.2⟩
  case round =>
    obtain ⟨k, hk, rfl, rfl, hb, hx, hl⟩ := hrel
    have HX := Lib.hid (And.intro hb (And.intro hx hl))
    clear hb hx hl
    have hM4 : M.length ≤ 4 := by rcases HA.out.2.1 with h | h <;> omega
    by_cases hlt : k < M.length
    · have h4 : (k : Int) < 4 := by omega
      have h5 : ((P.length : Nat) : Int) + (k : Int) < (a.size : Int) := by have := HA.out.2.2.2; omega
      have hln : (P ++ xorL M q.at_ k ++ S).length = P.length + M.length + S.length := by simp [xorL_len]; omega
      have hel : (P ++ xorL M q.at_ k ++ S)[P.length + k]'(by rw [hln]; omega) = M[k] := by
        rw [List.getElem_append_left (by simp [xorL_len]; omega), List.getElem_append_right (by omega)]
        have := xorL_at (X := q.at_) (k := k) hlt
        rw [if_neg (by omega)] at this
        obtain ⟨h1, h2⟩ := List.getElem?_eq_some_iff.1 this
        simpa using h2
      have d0 := HX.out.1.cell (j := P.length + k) (by rw [hln]; omega)
      rw [hel] at d0
      have d1 := HX.out.1.froz (j := P.length + k) (by rw [hln]; omega)
      have d2 : wr.cell? ⟨w.heap.size, k, none⟩ = some (.int .u8 ((q.at_ k).toNat : Int)) := by
        rw [row_cell HX.out.2.1]; exact quad_cell (by omega)
      obtain ⟨y, hy⟩ : ∃ y, y = M[k] ^^^ q.at_ k := ⟨_, rfl⟩
      have f1 : bits .xor .u8 (M[k].toNat : Int) ((q.at_ k).toNat : Int) = (y.toNat : Int) := by rw [hy]; exact bits_u8_xor _ _
      have hset : (P ++ xorL M q.at_ k ++ S).set (P.length + k) y = P ++ xorL M q.at_ (k + 1) ++ S := by
        rw [List.set_append_left _ _ (by simp [xorL_len]; omega), List.set_append_right _ _ (by omega), Nat.add_sub_cancel_left, hy, xorL_set hlt]
      have HB : Hid (Bs (wr.setCell ⟨w.heap.size + 1, P.length + k, none⟩ (.int .u8 (y.toNat : Int))) (w.heap.size + 1) (P ++ xorL M q.at_ (k + 1) ++ S)) := by
        have := HX.out.1.set (P.length + k) y
        rw [hset] at this
        exact this
      have HN := Lib.hid (anyX_succ q.at_ k)
      clear hln hel hy hset
      cases ho : anyX q.at_ k with
      | true =>
        go_wp2_with fail
        go_region
        all_goals (try go_wp2_with fail)
        all_goals
          go_roundw
          case rel =>
            refine ⟨k + 1, by omega, by go_num, by rw [HN.out]; simp [ho], ?_, ?_, ?_⟩
            · exact HB.out
            · exact (Below.heap_setCell _ _ _ _ (by simp)).trans HX.out.2.1
            · exact (HX.out.2.2.setCell (by show w.heap.size ≤ w.heap.size + 1; omega) _).drew
          case measure => simp [intOf]; omega
      | false =>
        by_cases hz : q.at_ k = 0
        · have hz' : (((q.at_ k).toNat : Int) != 0) = false := by rw [hz]; rfl
          have HZ := Lib.hid hz
          clear hz
          go_wp2_with fail
          go_region
          all_goals (try go_wp2_with fail)
          all_goals
            go_roundw
            case rel =>
              refine ⟨k + 1, by omega, by go_num, by rw [HN.out]; simp [ho, HZ.out], ?_, ?_, ?_⟩
              · exact HB.out
              · exact (Below.heap_setCell _ _ _ _ (by simp)).trans HX.out.2.1
              · exact (HX.out.2.2.setCell (by show w.heap.size ≤ w.heap.size + 1; omega) _).drew
            case measure => simp [intOf]; omega
        · have hz' : (((q.at_ k).toNat : Int) != 0) = true := by
            have h1 : ¬ (q.at_ k).toNat = 0 := fun h => hz (UInt8.toNat_inj.1 h)
            have h2 : ¬ ((q.at_ k).toNat : Int) = 0 := by omega
            simpa using h2
          have HZ := Lib.hid hz
          clear hz
          go_wp2_with fail
          go_region
          all_goals (try go_wp2_with fail)
          all_goals
            go_roundw
            case rel =>
              refine ⟨k + 1, by omega, by go_num, by rw [HN.out]; simp [ho, HZ.out], ?_, ?_, ?_⟩
              · exact HB.out
              · exact (Below.heap_setCell _ _ _ _ (by simp)).trans HX.out.2.1
              · exact (HX.out.2.2.setCell (by show w.heap.size ≤ w.heap.size + 1; omega) _).drew
            case measure => simp [intOf]; omega
    · obtain rfl : k = M.length := by omega
      have hln : (P ++ xorL M q.at_ M.length ++ S).length = a.size := by
        have := HA.out.2.2.2
        simp [xorL_len]; omega
      obtain ⟨sb, hsb⟩ : ∃ s : ByteArray, s = ⟨(P ++ xorL M q.at_ M.length ++ S).toArray⟩ := ⟨_, rfl⟩
      have lsb : sb.size ≤ maxLen := by
        have : sb.size = (P ++ xorL M q.at_ M.length ++ S).length := by rw [hsb]; show (P ++ xorL M q.at_ M.length ++ S).toArray.size = _; simp
        rw [this, hln]; unfold maxLen; omega
      have HV : Hid (∀ w', Below wr.heap.size wr w' → (convert 29 9 (.slice (some ⟨w.heap.size + 1, 0, none⟩) a.size cap)).run Try.prog w' = .ok (.string sb) w') := fun w' hb => by
        have := (HX.out.1.below hb).conv (cap := cap)
        rw [hln] at this
        rw [hsb]; exact this
      obtain ⟨p1, h1⟩ : ∃ p, p = sumS a := ⟨_, rfl⟩
      obtain ⟨p2, h2⟩ : ∃ p, p = sumS sb := ⟨_, rfl⟩
      have C1 : Hid (∀ w', Calls Try.prog 12 #[.string a] w' fun e w'' => e = .returned (.int .u32 (nv p1)) ∧ Below w'.heap.size w' w'') := fun w' => by rw [h1]; exact sum_any a (by unfold maxLen; omega) w'
      have C2 : Hid (∀ w', Calls Try.prog 12 #[.string sb] w' fun e w'' => e = .returned (.int .u32 (nv p2)) ∧ Below w'.heap.size w' w'') := fun w' => by rw [h2]; exact sum_any sb lsb w'
      have hM4 : M.length ≤ 4 := by rcases HA.out.2.1 with h | h <;> omega
      have hfind := finds P M S q.at_ hM4
      rw [← HA.out.1, ← hsb, ← h1, ← h2] at hfind
      obtain ⟨o, ho⟩ : ∃ o, o = anyX q.at_ M.length := ⟨_, rfl⟩
      rw [← ho] at hfind ⊢
      have hne : (nv p1 != nv p2) = o := by
        cases o
        · rw [hfind.2 rfl]; simp
        · have h3 : ¬ p1 = p2 := fun e => by have h5 := hfind.1 e; cases h5
          have h4 : ¬ nv p1 = nv p2 := fun e => h3 (nv_inj e)
          simpa using h4
      clear hfind ho h1 h2 hsb hln lsb
      rcases HA.out.2.1 with h | ⟨h, hS0⟩
      · have hk4 : ¬ ((M.length : Nat) : Int) < 4 := by omega
        go_wp2_with fail
        refine wp_region_flow2_lit [(0, false), (1, false), (2, false), (3, false), (4, false), (5, false), (6, false), (7, false), (8, false), (9, false), (10, false), (11, false)] (fun w' => Below wr.heap.size wr w') (by kernel_rfl) (by kernel_rfl) (by kernel_rfl) (by go_grown) ?_
        repeat (first | (refine' flow2_pass (o := _) rfl _ _; (focus rfl); simp only [Act.put, List.setIfInBounds_toArray, List.set_cons_zero, List.set_cons_succ]) | (refine' flow2_take (v := _) (o := _) rfl _ _ _; rotate_left; (focus rfl); (focus (intro wS hS; have hE := Ext.refl wS; (have g1 := HV.out wS hS); go_simp; try (with_reducible (first | exact ⟨rfl, hS, hE⟩ | rfl)); done)); simp only [Act.put, List.setIfInBounds_toArray, List.set_cons_zero, List.set_cons_succ]))
        (refine' flow2_take (v := _) (o := _) rfl _ _ _; rotate_left; (focus rfl); (focus (intro wS hS; go_simp; refine (C1.out _).mono ?_; rintro e w' ⟨rfl, hb⟩; refine ⟨?_, hS.trans (hb.mono hS.size), hb⟩; rfl)); simp only [Act.put, List.setIfInBounds_toArray, List.set_cons_zero, List.set_cons_succ])
        repeat (first | (refine' flow2_pass (o := _) rfl _ _; (focus rfl); simp only [Act.put, List.setIfInBounds_toArray, List.set_cons_zero, List.set_cons_succ]) | (refine' flow2_take (v := _) (o := _) rfl _ _ _; rotate_left; (focus rfl); (focus (intro wS hS; have hE := Ext.refl wS; (have g1 := HV.out wS hS); go_simp; try (with_reducible (first | exact ⟨rfl, hS, hE⟩ | rfl)); done)); simp only [Act.put, List.setIfInBounds_toArray, List.set_cons_zero, List.set_cons_succ]))
        (refine' flow2_take (v := _) (o := _) rfl _ _ _; rotate_left; (focus rfl); (focus (intro wS hS; go_simp; refine (C2.out _).mono ?_; rintro e w' ⟨rfl, hb⟩; refine ⟨?_, hS.trans (hb.mono hS.size), hb⟩; rfl)); simp only [Act.put, List.setIfInBounds_toArray, List.set_cons_zero, List.set_cons_succ])
        repeat (first | (refine' flow2_pass (o := _) rfl _ _; (focus rfl); simp only [Act.put, List.setIfInBounds_toArray, List.set_cons_zero, List.set_cons_succ]) | (refine' flow2_take (v := _) (o := _) rfl _ _ _; rotate_left; (focus rfl); (focus (intro wS hS; have hE := Ext.refl wS; (skip); go_simp; try (with_reducible (first | exact ⟨rfl, hS, hE⟩ | rfl)); done)); simp only [Act.put, List.setIfInBounds_toArray, List.set_cons_zero, List.set_cons_succ]))
        (refine' flow2_take (v := _) (o := _) rfl _ _ _; rotate_left; (focus rfl); (focus (intro wS hS; go_simp; refine (HK.out _).mono ?_; rintro e w' ⟨rfl, hb⟩; refine ⟨?_, hS.trans (hb.mono hS.size), hb⟩; rfl)); simp only [Act.put, List.setIfInBounds_toArray, List.set_cons_zero, List.set_cons_succ])
        repeat (first | (refine' flow2_pass (o := _) rfl _ _; (focus rfl); simp only [Act.put, List.setIfInBounds_toArray, List.set_cons_zero, List.set_cons_succ]) | (refine' flow2_take (v := _) (o := _) rfl _ _ _; rotate_left; (focus rfl); (focus (intro wS hS; have hE := Ext.refl wS; (skip); go_simp; try (with_reducible (first | exact ⟨rfl, hS, hE⟩ | rfl)); done)); simp only [Act.put, List.setIfInBounds_toArray, List.set_cons_zero, List.set_cons_succ]))
        refine flow2_nil ?_
        intro w5 hE5 hS5
        have H5 := Lib.hid hS5
        clear hE5 hS5
        go_wp2_with fail
        go_ret
        exact ⟨rfl, HX.out.2.2.trans (H5.out.mono HX.out.2.2.size)⟩
      · have hk4 : ((M.length : Nat) : Int) < 4 := by omega
        have hk5 : ¬ ((P.length : Nat) : Int) + ((M.length : Nat) : Int) < (a.size : Int) := by
          have h1 := HA.out.2.2.2
          rw [hS0] at h1
          simp only [List.length_nil] at h1
          omega
        go_wp2_with fail
        refine wp_region_flow2_lit [(0, false), (1, false), (2, false), (3, false), (4, false), (5, false), (6, false), (7, false), (8, false), (9, false), (10, false), (11, false)] (fun w' => Below wr.heap.size wr w') (by kernel_rfl) (by kernel_rfl) (by kernel_rfl) (by go_grown) ?_
        repeat (first | (refine' flow2_pass (o := _) rfl _ _; (focus rfl); simp only [Act.put, List.setIfInBounds_toArray, List.set_cons_zero, List.set_cons_succ]) | (refine' flow2_take (v := _) (o := _) rfl _ _ _; rotate_left; (focus rfl); (focus (intro wS hS; have hE := Ext.refl wS; (have g1 := HV.out wS hS); go_simp; try (with_reducible (first | exact ⟨rfl, hS, hE⟩ | rfl)); done)); simp only [Act.put, List.setIfInBounds_toArray, List.set_cons_zero, List.set_cons_succ]))
        (refine' flow2_take (v := _) (o := _) rfl _ _ _; rotate_left; (focus rfl); (focus (intro wS hS; go_simp; refine (C1.out _).mono ?_; rintro e w' ⟨rfl, hb⟩; refine ⟨?_, hS.trans (hb.mono hS.size), hb⟩; rfl)); simp only [Act.put, List.setIfInBounds_toArray, List.set_cons_zero, List.set_cons_succ])
        repeat (first | (refine' flow2_pass (o := _) rfl _ _; (focus rfl); simp only [Act.put, List.setIfInBounds_toArray, List.set_cons_zero, List.set_cons_succ]) | (refine' flow2_take (v := _) (o := _) rfl _ _ _; rotate_left; (focus rfl); (focus (intro wS hS; have hE := Ext.refl wS; (have g1 := HV.out wS hS); go_simp; try (with_reducible (first | exact ⟨rfl, hS, hE⟩ | rfl)); done)); simp only [Act.put, List.setIfInBounds_toArray, List.set_cons_zero, List.set_cons_succ]))
        (refine' flow2_take (v := _) (o := _) rfl _ _ _; rotate_left; (focus rfl); (focus (intro wS hS; go_simp; refine (C2.out _).mono ?_; rintro e w' ⟨rfl, hb⟩; refine ⟨?_, hS.trans (hb.mono hS.size), hb⟩; rfl)); simp only [Act.put, List.setIfInBounds_toArray, List.set_cons_zero, List.set_cons_succ])
        repeat (first | (refine' flow2_pass (o := _) rfl _ _; (focus rfl); simp only [Act.put, List.setIfInBounds_toArray, List.set_cons_zero, List.set_cons_succ]) | (refine' flow2_take (v := _) (o := _) rfl _ _ _; rotate_left; (focus rfl); (focus (intro wS hS; have hE := Ext.refl wS; (skip); go_simp; try (with_reducible (first | exact ⟨rfl, hS, hE⟩ | rfl)); done)); simp only [Act.put, List.setIfInBounds_toArray, List.set_cons_zero, List.set_cons_succ]))
        (refine' flow2_take (v := _) (o := _) rfl _ _ _; rotate_left; (focus rfl); (focus (intro wS hS; go_simp; refine (HK.out _).mono ?_; rintro e w' ⟨rfl, hb⟩; refine ⟨?_, hS.trans (hb.mono hS.size), hb⟩; rfl)); simp only [Act.put, List.setIfInBounds_toArray, List.set_cons_zero, List.set_cons_succ])
        repeat (first | (refine' flow2_pass (o := _) rfl _ _; (focus rfl); simp only [Act.put, List.setIfInBounds_toArray, List.set_cons_zero, List.set_cons_succ]) | (refine' flow2_take (v := _) (o := _) rfl _ _ _; rotate_left; (focus rfl); (focus (intro wS hS; have hE := Ext.refl wS; (skip); go_simp; try (with_reducible (first | exact ⟨rfl, hS, hE⟩ | rfl)); done)); simp only [Act.put, List.setIfInBounds_toArray, List.set_cons_zero, List.set_cons_succ]))
        refine flow2_nil ?_
        intro w5 hE5 hS5
        have H5 := Lib.hid hS5
        clear hE5 hS5
        go_wp2_with fail
        go_ret
        exact ⟨rfl, HX.out.2.2.trans (H5.out.mono HX.out.2.2.size)⟩
/-- a text cut at a place -/
theorem cut_text (a : ByteArray) (n : Nat) (h : n < a.size) : ∃ P M S : List UInt8, a = ⟨(P ++ M ++ S).toArray⟩ ∧ P.length = n ∧ (M.length = 4 ∨ (M.length < 4 ∧ S = [])) ∧ 0 < M.length := by
  have hl : a.data.toList.length = a.size := rfl
  refine ⟨a.data.toList.take n, (a.data.toList.drop n).take 4, (a.data.toList.drop n).drop 4, ?_, by simp; omega, ?_, by simp; omega⟩
  · rw [List.append_assoc, List.take_append_drop, List.take_append_drop]
  · by_cases h4 : n + 4 ≤ a.size
    · left; simp; omega
    · right
      refine ⟨by simp; omega, ?_⟩
      apply List.eq_nil_of_length_eq_zero
      simp; omega
theorem finds_walk (a : ByteArray) (_wa : a.size ≤ maxLen) (i : Int) (q : Quad) (_ : True) (w : World) :
    Calls Try.prog 4 #[.string a, .int .i64 i, .agg q.row.toArray] w fun e w' => e = .returned (.bool true) ∧ Below w.heap.size w w' := by
  by_cases h : (1000 : Int) < a.size ∨ i < 0 ∨ (a.size : Int) ≤ i
  · exact finds_big a i q w h
  · obtain ⟨n, rfl⟩ : ∃ n : Nat, i = n := ⟨i.toNat, by omega⟩
    obtain ⟨P, M, S, ha, rfl, hM, hM0⟩ := cut_text a n (by omega)
    have hsz : a.size = (P ++ M ++ S).length := by rw [ha]; show (P ++ M ++ S).toArray.size = _; simp
    rw [ha]
    exact finds_main P M S hM hM0 q w (by omega)
end Go.Proofs.Ythacpfijoadclaa
