/- SumTurns: the walk. -/
import Derived.Test.YthacpfijoadclaaTurns
import Derived.Deep.RegionLaw
namespace Go.Proofs.Ythacpfijoadclaa
open Go Go.RowKit

theorem turns_big (A : Option Addr) (m cap : Nat) (w : World) (h : (500 : Int) < m) :
    Calls Try.prog 5 #[.slice A m cap] w fun e w' => e = .returned (.bool true) ∧ Below w.heap.size w w' := by
  have HK := Lib.hid (known_any w)
  go_enter Try.func5, Try.ntmps5
  go_wp2_with fail
  refine HK.out.mono ?_
  rintro e w' ⟨rfl, hb⟩
  go_wp2_with fail
  go_ret
  exact ⟨rfl, hb⟩

/-- the four rows -/
structure Four (W : World) (ka kb kc kd : List UInt8) (v1 v2 v3 v4 : Value) (w : World) : Prop where
  bl : Below W.heap.size W w
  s1 : Sl w W.heap.size 5 1 v1 ka.length (encB ka)
  s2 : Sl w W.heap.size 5 1 v2 kb.length (encB kb)
  s3 : Sl w W.heap.size 5 1 v3 kc.length (encB kc)
  s4 : Sl w W.heap.size 5 1 v4 kd.length (encB kd)
  d12 : disj v1 v2
  d13 : disj v1 v3
  d14 : disj v1 v4
  d23 : disj v2 v3
  d24 : disj v2 v4
  d34 : disj v3 v4
theorem Four.below {W w w' : World} {ka kb kc kd : List UInt8} {v1 v2 v3 v4 : Value} (h : Four W ka kb kc kd v1 v2 v3 v4 w) (hb : Below w.heap.size w w') : Four W ka kb kc kd v1 v2 v3 v4 w' :=
  ⟨h.bl.trans (hb.mono h.bl.size), h.s1.below hb, h.s2.below hb, h.s3.below hb, h.s4.below hb, h.d12, h.d13, h.d14, h.d23, h.d24, h.d34⟩
theorem Four.rot {W w : World} {ka kb kc kd : List UInt8} {v1 v2 v3 v4 : Value} (h : Four W ka kb kc kd v1 v2 v3 v4 w) : Four W kb kc kd ka v2 v3 v4 v1 w :=
  ⟨h.bl, h.s2, h.s3, h.s4, h.s1, h.d23, h.d24, h.d12.symm, h.d34, h.d13.symm, h.d14.symm⟩
/-- without the first one -/
structure Three (W : World) (ka kb kc : List UInt8) (v1 v2 v3 : Value) (w : World) : Prop where
  bl : Below W.heap.size W w
  s1 : Sl w W.heap.size 5 1 v1 ka.length (encB ka)
  s2 : Sl w W.heap.size 5 1 v2 kb.length (encB kb)
  s3 : Sl w W.heap.size 5 1 v3 kc.length (encB kc)
theorem Four.three {W w : World} {ka kb kc kd : List UInt8} {v1 v2 v3 v4 : Value} (h : Four W kd ka kb kc v4 v1 v2 v3 w) : Three W ka kb kc v1 v2 v3 w := ⟨h.bl, h.s2, h.s3, h.s4⟩
/-- one more byte to the first row -/
theorem Four.app {W w w0 w' : World} {ka kb kc kd : List UInt8} {v1 v2 v3 v4 v' : Value} {x : UInt8} (h : Four W ka kb kc kd v1 v2 v3 v4 w) (hb0 : Below w.heap.size w w0)
    (hsl : Sl w' W.heap.size 5 1 v' (ka.length + 1) (encB ka ++ [.int .u8 (x.toNat : Int)])) (hgrow : w0.grownBy w' v1.ownBlock) (hown : ∀ k, v'.ownBlock = some k → v1.ownBlock = some k ∨ w.heap.size ≤ k) : Four W (ka ++ [x]) kb kc kd v' v2 v3 v4 w' := by
  have h1 := h.bl.trans (hb0.mono h.bl.size)
  refine ⟨h1.grown hgrow h1.size h.s1.ge, ?_, other_stays h.s2 hb0 hgrow h.d12.symm, other_stays h.s3 hb0 hgrow h.d13.symm, other_stays h.s4 hb0 hgrow h.d14.symm, disj_app h.s2 h.d12 hown, disj_app h.s3 h.d13 hown, disj_app h.s4 h.d14 hown, h.d23, h.d24, h.d34⟩
  rw [List.length_append, List.length_singleton, ← encB_snoc]
  exact hsl
theorem one_cell (w : World) (v : Value) (e : TypeId) : ∀ ad, some (⟨w.heap.size, 0, none⟩ : Addr) = some ad → ∀ j u, [v][j]? = some u → (w.alloc (.cells #[v] e)).cell? (ad.add j) = some u := by
  intro ad had j u hu
  cases had
  rw [addr_add, row_cell (heap_alloc_new w _)]
  match j, hu with
  | 0, hu => simpa using hu
theorem one_cell' {w w' : World} {v : Value} {e : TypeId} (hb : Below (w.alloc (.cells #[v] e)).heap.size (w.alloc (.cells #[v] e)) w') : ∀ ad, some (⟨w.heap.size, 0, none⟩ : Addr) = some ad → ∀ j u, [v][j]? = some u → w'.cell? (ad.add j) = some u := by
  intro ad had j u hu
  cases had
  rw [addr_add]
  have := one_cell w v e _ rfl j u hu
  rw [addr_add] at this
  exact (hb.cell (p := ⟨w.heap.size, 0 + j, none⟩) (by show w.heap.size < _; rw [alloc_size]; omega)).trans this

set_option maxRecDepth 100000 in
set_option maxHeartbeats 8000000 in
theorem turns_main (A : Option Addr) (L : List Tri) (cap : Nat) (w : World) (hs : TrisAt w A L) (hm : ¬ (500 : Int) < L.length) :
    Calls Try.prog 5 #[.slice A L.length cap] w fun e w' => e = .returned (.bool true) ∧ Below w.heap.size w w' := by
  obtain ⟨i0, hi, hz0, hz1, hz2⟩ := info_parts info5
  have HK := Lib.hid (fun w' => known_any w')
  have HS := Lib.hid hs
  clear hs
  go_enter Try.func5, Try.ntmps5
  go_wp2_with fail
  go_loopw [3, 4, 5, 6, 7] (fun a b c d i wr => ∃ (k : Nat), k ≤ L.length ∧ i = .int .i64 k ∧ Four w ((L.take k).map (·.x)) ((L.take k).map (·.y)) ((L.take k).map (·.z)) ((L.take k).map Tri.all) a b c d wr) (fun _ _ _ _ i _ => L.length - (intOf i).toNat)
  case atStart => exact ⟨0, by omega, rfl, ⟨Below.refl _ _, Sl.nil _ _ _ _, Sl.nil _ _ _ _, Sl.nil _ _ _ _, Sl.nil _ _ _ _, disj_nil _, disj_nil _, disj_nil _, disj_nil _, disj_nil _, disj_nil _⟩⟩
  case round =>
    obtain ⟨k, hk, rfl, h4⟩ := hrel
    have H4 := Lib.hid h4
    clear h4
    by_cases hlt : k < L.length
    · obtain ⟨b, off, rfl, hbw, c0, c1, c2⟩ := HS.out.at_ hlt
      have hcells : ∀ w', Below w.heap.size w w' → w'.cell? ⟨b, off + k * 3, none⟩ = some (.int .u8 (L[k].x.toNat : Int)) ∧ w'.cell? ⟨b, off + k * 3 + 1, none⟩ = some (.int .u8 (L[k].y.toNat : Int)) ∧ w'.cell? ⟨b, off + k * 3 + 2, none⟩ = some (.int .u8 (L[k].z.toNat : Int)) := fun w' hb =>
        ⟨(hb.cell (p := ⟨b, off + k * 3, none⟩) hbw).trans c0, (hb.cell (p := ⟨b, off + k * 3 + 1, none⟩) hbw).trans c1, (hb.cell (p := ⟨b, off + k * 3 + 2, none⟩) hbw).trans c2⟩
      have HC := Lib.hid hcells
      have htk : L.take (k + 1) = L.take k ++ [L[k]] := List.take_succ_eq_append_getElem hlt
      have HTK := Lib.hid htk
      obtain ⟨ka, hka⟩ : ∃ x, x = (L.take k).map (·.x) := ⟨_, rfl⟩
      obtain ⟨kb, hkb⟩ : ∃ x, x = (L.take k).map (·.y) := ⟨_, rfl⟩
      obtain ⟨kc, hkc⟩ : ∃ x, x = (L.take k).map (·.z) := ⟨_, rfl⟩
      obtain ⟨kd, hkd⟩ : ∃ x, x = (L.take k).map Tri.all := ⟨_, rfl⟩
      have la : ka.length ≤ 500 := by rw [hka]; simp; omega
      have lb : kb.length ≤ 500 := by rw [hkb]; simp; omega
      have lc : kc.length ≤ 500 := by rw [hkc]; simp; omega
      have ld : kd.length ≤ 500 := by rw [hkd]; simp; omega
      rw [← hka, ← hkb, ← hkc, ← hkd] at H4
      have HE := Lib.hid (And.intro hka (And.intro hkb (And.intro hkc hkd)))
      clear hcells c0 c1 c2 hbw htk hka hkb hkc hkd
      have d0 := (HC.out _ H4.out.bl).1
      go_wp2_with (at_builtin; refine wpList_append_sl _ rfl (.tmp 18) (.tmp 24) 29 rfl 5 i0 (.int .u8 0) 1 1 Try.underlying29 hi hz0 hz1 hz2 rfl (by decide) rfl (H4.out.s1.below (by go_grown)) (some ⟨wr.heap.size, 0, none⟩) 1 1 [.int .u8 (L[k].x.toNat : Int)] rfl (by simp) rfl (one_cell wr _ 5) (by intro u hu; simp at hu; subst hu; rfl) (by unfold maxLen; omega) (by omega) (by have := H4.out.bl.size; rw [alloc_size]; omega) ?_)
      intro v1 w1 hsl hgrow hown
      have h5 := H4.out.app (x := L[k].x) (by go_grown) hsl hgrow (fun q hq => (hown q hq).elim .inl (fun h => .inr (by omega)))
      have H5 := Lib.hid h5.rot
      clear hsl hgrow hown h5 d0
      have d0 := (HC.out _ H5.out.bl).2.1
      go_wp2_with (at_builtin; refine wpList_append_sl _ rfl (.tmp 26) (.tmp 32) 29 rfl 5 i0 (.int .u8 0) 1 1 Try.underlying29 hi hz0 hz1 hz2 rfl (by decide) rfl (H5.out.s1.below (by go_grown)) (some ⟨w1.heap.size, 0, none⟩) 1 1 [.int .u8 (L[k].y.toNat : Int)] rfl (by simp) rfl (one_cell w1 _ 5) (by intro u hu; simp at hu; subst hu; rfl) (by unfold maxLen; omega) (by omega) (by have := H5.out.bl.size; rw [alloc_size]; omega) ?_)
      intro v2 w2 hsl hgrow hown
      have h6 := H5.out.app (x := L[k].y) (by go_grown) hsl hgrow (fun q hq => (hown q hq).elim .inl (fun h => .inr (by omega)))
      have H6 := Lib.hid h6.rot
      clear hsl hgrow hown h6 d0
      have d0 := (HC.out _ H6.out.bl).2.2
      go_wp2_with (at_builtin; refine wpList_append_sl _ rfl (.tmp 34) (.tmp 40) 29 rfl 5 i0 (.int .u8 0) 1 1 Try.underlying29 hi hz0 hz1 hz2 rfl (by decide) rfl (H6.out.s1.below (by go_grown)) (some ⟨w2.heap.size, 0, none⟩) 1 1 [.int .u8 (L[k].z.toNat : Int)] rfl (by simp) rfl (one_cell w2 _ 5) (by intro u hu; simp at hu; subst hu; rfl) (by unfold maxLen; omega) (by omega) (by have := H6.out.bl.size; rw [alloc_size]; omega) ?_)
      intro v3 w3 hsl hgrow hown
      have h7 := H6.out.app (x := L[k].z) (by go_grown) hsl hgrow (fun q hq => (hown q hq).elim .inl (fun h => .inr (by omega)))
      have H7 := Lib.hid h7.rot
      clear hsl hgrow hown h7 d0
      obtain ⟨u, hu⟩ : ∃ u, u = L[k].x ^^^ L[k].y := ⟨_, rfl⟩
      obtain ⟨t, ht⟩ : ∃ t, t = u ^^^ L[k].z := ⟨_, rfl⟩
      have f1 : bits .xor .u8 (L[k].x.toNat : Int) (L[k].y.toNat : Int) = (u.toNat : Int) := by rw [hu]; exact bits_u8_xor _ _
      have f2 : bits .xor .u8 (u.toNat : Int) (L[k].z.toNat : Int) = (t.toNat : Int) := by rw [ht]; exact bits_u8_xor _ _
      have HT : Hid (t = L[k].all) := by
        show t = _
        rw [ht, hu]; rfl
      clear hu ht
      go_wp2_with fail
      have g0 := (HC.out _ H7.out.bl).1
      have g1 := (HC.out _ H7.out.bl).2.1
      have g2 := (HC.out _ H7.out.bl).2.2
      go_region_law (refine step_append_sl rfl (.tmp 42) (.tmp 60) 29 rfl 5 i0 (.int .u8 0) 1 1 Try.underlying29 hi hz0 hz1 hz2 rfl (by decide) (v := u6) (by simp [Act.eval, Act.put]) (H7.out.s1.below (by go_grown)) (some ⟨w3.heap.size, 0, none⟩) 1 1 [.int .u8 (t.toNat : Int)] (by simp [Act.eval, Act.put]) (by simp) rfl (by intro ad had j u hu; cases had; match j, hu with | 0, hu => simp at hu; subst hu; simp [Addr.add]) (by intro u hu; simp at hu; subst hu; rfl) (by unfold maxLen; omega) (by omega) (by exact Nat.le_trans H7.out.bl.size (show Below w3.heap.size w3 _ by go_grown).size) ?_; intro v4 w4 hsl hgrow hown; have h10 := (H7.out.app (x := t) (by go_grown) hsl hgrow (fun q hq => (hown q hq).elim .inl (fun h => .inr (Nat.le_trans (show Below w3.heap.size w3 _ by go_grown).size h)))).rot; clear hsl hgrow hown)
      all_goals
        have H11 := Lib.hid h10
        clear h10 f1 f2 g0 g1 g2
        go_wp2_with fail
        go_roundw
        case rel =>
          have h := H11.out
          rw [HE.out.1, HE.out.2.1, HE.out.2.2.1, HE.out.2.2.2, HT.out] at h
          refine ⟨k + 1, by omega, by go_num, ?_⟩
          rw [HTK.out, List.map_append, List.map_append, List.map_append, List.map_append]
          exact h
        case measure => simp [intOf]; omega
    · obtain rfl : k = L.length := by omega
      rw [List.take_length] at H4
      obtain ⟨sa, hsa⟩ : ∃ s : ByteArray, s = ⟨(L.map (·.x)).toArray⟩ := ⟨_, rfl⟩
      obtain ⟨sb, hsb⟩ : ∃ s : ByteArray, s = ⟨(L.map (·.y)).toArray⟩ := ⟨_, rfl⟩
      obtain ⟨sc, hsc⟩ : ∃ s : ByteArray, s = ⟨(L.map (·.z)).toArray⟩ := ⟨_, rfl⟩
      obtain ⟨sd, hsd⟩ : ∃ s : ByteArray, s = ⟨(L.map Tri.all).toArray⟩ := ⟨_, rfl⟩
      have la : sa.size ≤ maxLen := by rw [hsa]; show (L.map (·.x)).toArray.size ≤ _; unfold maxLen; simp; omega
      have lb : sb.size ≤ maxLen := by rw [hsb]; show (L.map (·.y)).toArray.size ≤ _; unfold maxLen; simp; omega
      have lc : sc.size ≤ maxLen := by rw [hsc]; show (L.map (·.z)).toArray.size ≤ _; unfold maxLen; simp; omega
      have ld : sd.size ≤ maxLen := by rw [hsd]; show (L.map Tri.all).toArray.size ≤ _; unfold maxLen; simp; omega
      have V1 : Hid (∀ w', Below wr.heap.size wr w' → (convert 29 9 _).run Try.prog w' = .ok (.string sa) w') := fun w' hb => by rw [hsa]; exact conv_row (H4.out.s1.below hb) rfl
      have V2 : Hid (∀ w', Below wr.heap.size wr w' → (convert 29 9 _).run Try.prog w' = .ok (.string sb) w') := fun w' hb => by rw [hsb]; exact conv_row (H4.out.s2.below hb) rfl
      have V3 : Hid (∀ w', Below wr.heap.size wr w' → (convert 29 9 _).run Try.prog w' = .ok (.string sc) w') := fun w' hb => by rw [hsc]; exact conv_row (H4.out.s3.below hb) rfl
      have V4 : Hid (∀ w', Below wr.heap.size wr w' → (convert 29 9 _).run Try.prog w' = .ok (.string sd) w') := fun w' hb => by rw [hsd]; exact conv_row (H4.out.s4.below hb) rfl
      obtain ⟨p1, h1⟩ : ∃ p, p = sumS sa := ⟨_, rfl⟩
      obtain ⟨p2, h2⟩ : ∃ p, p = sumS sb := ⟨_, rfl⟩
      obtain ⟨p3, h3⟩ : ∃ p, p = sumS sc := ⟨_, rfl⟩
      obtain ⟨p4, h4⟩ : ∃ p, p = sumS sd := ⟨_, rfl⟩
      have C1 : Hid (∀ w', Calls Try.prog 12 #[.string sa] w' fun e w'' => e = .returned (.int .u32 (nv p1)) ∧ Below w'.heap.size w' w'') := fun w' => by rw [h1]; exact sum_any sa la w'
      have C2 : Hid (∀ w', Calls Try.prog 12 #[.string sb] w' fun e w'' => e = .returned (.int .u32 (nv p2)) ∧ Below w'.heap.size w' w'') := fun w' => by rw [h2]; exact sum_any sb lb w'
      have C3 : Hid (∀ w', Calls Try.prog 12 #[.string sc] w' fun e w'' => e = .returned (.int .u32 (nv p3)) ∧ Below w'.heap.size w' w'') := fun w' => by rw [h3]; exact sum_any sc lc w'
      have C4 : Hid (∀ w', Calls Try.prog 12 #[.string sd] w' fun e w'' => e = .returned (.int .u32 (nv p4)) ∧ Below w'.heap.size w' w'') := fun w' => by rw [h4]; exact sum_any sd ld w'
      obtain ⟨q2, hq2⟩ : ∃ q, q = p1 ^^^ p2 := ⟨_, rfl⟩
      obtain ⟨q3, hq3⟩ : ∃ q, q = q2 ^^^ p3 := ⟨_, rfl⟩
      have x1 : bits .xor .u32 (nv p1) (nv p2) = nv q2 := by rw [hq2]; exact m_xor _ _
      have x2 : bits .xor .u32 (nv q2) (nv p3) = nv q3 := by rw [hq3]; exact m_xor _ _
      have x3 : bits .xor .u32 (nv q3) (nv p4) = 0 := by
        rw [m_xor, hq3, hq2, h1, h2, h3, h4, hsa, hsb, hsc, hsd, turns_sum]; rfl
      clear hsa hsb hsc hsd la lb lc ld h1 h2 h3 h4 hq2 hq3
      go_wp2_with fail
      refine wp_region_flow2_lit [(0, false), (1, false), (2, false), (3, false), (4, false), (5, false), (6, false), (7, false), (8, false), (9, false), (10, false), (11, false), (12, false), (13, false), (14, false), (15, false), (16, false), (17, false), (18, false), (19, false)] (fun w' => Below wr.heap.size wr w') (by kernel_rfl) (by kernel_rfl) (by kernel_rfl) (by go_grown) ?_
      repeat (first | (refine' flow2_pass (o := _) rfl _ _; (focus rfl); simp only [Act.put, List.setIfInBounds_toArray, List.set_cons_zero, List.set_cons_succ]) | (refine' flow2_take (v := _) (o := _) rfl _ _ _; rotate_left; (focus rfl); (focus (intro wS hS; have hE := Ext.refl wS; (have g1 := V1.out wS hS; have g2 := V2.out wS hS; have g3 := V3.out wS hS; have g4 := V4.out wS hS); go_simp; try (with_reducible (first | exact ⟨rfl, hS, hE⟩ | rfl)); done)); simp only [Act.put, List.setIfInBounds_toArray, List.set_cons_zero, List.set_cons_succ]))
      (refine' flow2_take (v := _) (o := _) rfl _ _ _; rotate_left; (focus rfl); (focus (intro wS hS; go_simp; refine (C1.out _).mono ?_; rintro e w' ⟨rfl, hb⟩; refine ⟨?_, hS.trans (hb.mono hS.size), hb⟩; rfl)); simp only [Act.put, List.setIfInBounds_toArray, List.set_cons_zero, List.set_cons_succ])
      repeat (first | (refine' flow2_pass (o := _) rfl _ _; (focus rfl); simp only [Act.put, List.setIfInBounds_toArray, List.set_cons_zero, List.set_cons_succ]) | (refine' flow2_take (v := _) (o := _) rfl _ _ _; rotate_left; (focus rfl); (focus (intro wS hS; have hE := Ext.refl wS; (have g1 := V1.out wS hS; have g2 := V2.out wS hS; have g3 := V3.out wS hS; have g4 := V4.out wS hS); go_simp; try (with_reducible (first | exact ⟨rfl, hS, hE⟩ | rfl)); done)); simp only [Act.put, List.setIfInBounds_toArray, List.set_cons_zero, List.set_cons_succ]))
      (refine' flow2_take (v := _) (o := _) rfl _ _ _; rotate_left; (focus rfl); (focus (intro wS hS; go_simp; refine (C2.out _).mono ?_; rintro e w' ⟨rfl, hb⟩; refine ⟨?_, hS.trans (hb.mono hS.size), hb⟩; rfl)); simp only [Act.put, List.setIfInBounds_toArray, List.set_cons_zero, List.set_cons_succ])
      repeat (first | (refine' flow2_pass (o := _) rfl _ _; (focus rfl); simp only [Act.put, List.setIfInBounds_toArray, List.set_cons_zero, List.set_cons_succ]) | (refine' flow2_take (v := _) (o := _) rfl _ _ _; rotate_left; (focus rfl); (focus (intro wS hS; have hE := Ext.refl wS; (have g1 := V1.out wS hS; have g2 := V2.out wS hS; have g3 := V3.out wS hS; have g4 := V4.out wS hS); go_simp; try (with_reducible (first | exact ⟨rfl, hS, hE⟩ | rfl)); done)); simp only [Act.put, List.setIfInBounds_toArray, List.set_cons_zero, List.set_cons_succ]))
      (refine' flow2_take (v := _) (o := _) rfl _ _ _; rotate_left; (focus rfl); (focus (intro wS hS; go_simp; refine (C3.out _).mono ?_; rintro e w' ⟨rfl, hb⟩; refine ⟨?_, hS.trans (hb.mono hS.size), hb⟩; rfl)); simp only [Act.put, List.setIfInBounds_toArray, List.set_cons_zero, List.set_cons_succ])
      repeat (first | (refine' flow2_pass (o := _) rfl _ _; (focus rfl); simp only [Act.put, List.setIfInBounds_toArray, List.set_cons_zero, List.set_cons_succ]) | (refine' flow2_take (v := _) (o := _) rfl _ _ _; rotate_left; (focus rfl); (focus (intro wS hS; have hE := Ext.refl wS; (have g1 := V1.out wS hS; have g2 := V2.out wS hS; have g3 := V3.out wS hS; have g4 := V4.out wS hS); go_simp; try (with_reducible (first | exact ⟨rfl, hS, hE⟩ | rfl)); done)); simp only [Act.put, List.setIfInBounds_toArray, List.set_cons_zero, List.set_cons_succ]))
      (refine' flow2_take (v := _) (o := _) rfl _ _ _; rotate_left; (focus rfl); (focus (intro wS hS; go_simp; refine (C4.out _).mono ?_; rintro e w' ⟨rfl, hb⟩; refine ⟨?_, hS.trans (hb.mono hS.size), hb⟩; rfl)); simp only [Act.put, List.setIfInBounds_toArray, List.set_cons_zero, List.set_cons_succ])
      repeat (first | (refine' flow2_pass (o := _) rfl _ _; (focus rfl); simp only [Act.put, List.setIfInBounds_toArray, List.set_cons_zero, List.set_cons_succ]) | (refine' flow2_take (v := _) (o := _) rfl _ _ _; rotate_left; (focus rfl); (focus (intro wS hS; have hE := Ext.refl wS; (skip); go_simp; try (with_reducible (first | exact ⟨rfl, hS, hE⟩ | rfl)); done)); simp only [Act.put, List.setIfInBounds_toArray, List.set_cons_zero, List.set_cons_succ]))
      (refine' flow2_take (v := _) (o := _) rfl _ _ _; rotate_left; (focus rfl); (focus (intro wS hS; go_simp; refine (HK.out _).mono ?_; rintro e w' ⟨rfl, hb⟩; refine ⟨?_, hS.trans (hb.mono hS.size), hb⟩; rfl)); simp only [Act.put, List.setIfInBounds_toArray, List.set_cons_zero, List.set_cons_succ])
      repeat (first | (refine' flow2_pass (o := _) rfl _ _; (focus rfl); simp only [Act.put, List.setIfInBounds_toArray, List.set_cons_zero, List.set_cons_succ]) | (refine' flow2_take (v := _) (o := _) rfl _ _ _; rotate_left; (focus rfl); (focus (intro wS hS; have hE := Ext.refl wS; (skip); go_simp; try (with_reducible (first | exact ⟨rfl, hS, hE⟩ | rfl)); done)); simp only [Act.put, List.setIfInBounds_toArray, List.set_cons_zero, List.set_cons_succ]))
      refine flow2_nil ?_
      intro w5 hE5 hS5
      have H5 := Lib.hid hS5
      clear hE5 hS5
      go_wp2_with fail
      go_ret
      exact ⟨rfl, H4.out.bl.trans (H5.out.mono H4.out.bl.size)⟩
theorem turns_walk (A : Option Addr) (L : List Tri) (cap : Nat) (_hlen : L.length ≤ maxLen) (_ : True) (w : World) (hs : TrisAt w A L) :
    Calls Try.prog 5 #[.slice A L.length cap] w fun e w' => e = .returned (.bool true) ∧ Below w.heap.size w w' := by
  by_cases h : (500 : Int) < L.length
  · exact turns_big A _ cap w h
  · exact turns_main A L cap w hs h
end Go.Proofs.Ythacpfijoadclaa
