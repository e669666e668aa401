/- posthouseref26.Table.Due: the walk. -/
import Derived.Test.YtbhiddppohbjhaaRDueLaw
import Derived.Test.YtbhiddppohbjhaaFlowW
namespace Go.Proofs.Ytbhiddppohbjhaa
open Go Go.RowKit Go.Maps Go.WideShapes Go.ChangeMaps Go.WideMaps Go.MapKept
set_option maxRecDepth 100000
theorem turn_lit {K' : Value → World → Prop} {a : Act} {o : Oper} {x : Operand} {w : World} {p : Pd} (ho : o.op = .buildSlice 48 1 #[(0, x)]) (hx : a.eval x = .agg p.arr) (hp : p.ok) (hK : K' (.slice (some ⟨w.heap.size, 0, none⟩) 1 1) (w.alloc (.cells p.arr 37))) :
    effR Try.prog K' ((execOp a.eval o).run Try.prog w) := by
  cases hie : Try.prog.info? 37 with
  | none => have := info37'; rw [hie] at this; cases this
  | some ie =>
    have h44 := info37'
    rw [hie] at h44
    simp only [Option.map_some, Option.some.injEq, Prod.mk.injEq] at h44
    obtain ⟨z, hz⟩ := Option.isSome_iff_exists.1 h44.1
    have hr := run_buildSlice (P := Try.prog) w 48 37 1 #[(0, Value.agg p.arr)] p.arr ie z Try.underlying48 hie hz (by rw [h44.2]; omega) (by rw [h44.2]; omega) (by rw [h44.2]; exact fill_one (by simp) (Pd.size hp))
    unfold execOp
    simp only [ho, Sem.run_bind, Sem.run_pure, Result.andThen_ok, List.map_toArray, List.map_cons, List.map_nil, hx, hr]
    exact hK
theorem turn_app {K' : Value → World → Prop} {a : Act} {o : Oper} {s x : Operand} {w w' : World} {v v' : Value} {ao : Option Addr} {m c : Nat} (hop : o.op = .call { callee := .builtin .append, args := #[s, x], argTypes := #[48, 48] })
    (hs : a.eval s = v) (hx : a.eval x = .slice ao m c) (hr : (Builtin.append_ #[48, 48] o.type #[v, .slice ao m c]).run Try.prog w = .ok v' w') (hK : K' v' w') : effR Try.prog K' ((execOp a.eval o).run Try.prog w) := by
  unfold execOp
  simp only [hop, resolve, invoke, builtin, Sem.run_bind, Sem.run_pure, Result.andThen_ok, List.map_toArray, List.map_cons, List.map_nil, hs, hx, hr]
  exact hK
section
variable {M : Tb} {h : Tok M}
structure TS (M : Tb) (h : Tok M) (w w' : World) : Prop where
  tb : w'.heap[w.heap.size]? = some (.cells (tabA M h) 40)
  bl : Below w.heap.size w w'
structure RL (M : Tb) (h : Tok M) (now : Int) (w wr : World) (sv : Value) (k : Nat) (L : List Pk) : Prop where
  dt : DueTo M now k L
  sl : Sl wr (w.heap.size + 1) 37 34 sv L.length (cellsP L)
  ts : TS M h w wr
theorem TS.drew {w w' : World} (x : TS M h w w') : TS M h w w'.drew := ⟨x.tb, x.bl.drew⟩
theorem TS.below {w w' w2 : World} (x : TS M h w w') (hb : Below w'.heap.size w' w2) : TS M h w w2 := ⟨(hb.block _ (heap_lt x.tb)).trans x.tb, x.bl.trans (hb.mono x.bl.size)⟩
theorem TS.grown {w w' w2 : World} {q : Nat} (x : TS M h w w') (hg : w'.grownBy w2 (some q)) (hq : w.heap.size < q) : TS M h w w2 := ⟨(hg.block _ (heap_lt x.tb) (by simp; omega)).trans x.tb, x.bl.grown hg x.bl.size (fun j hj => by cases hj; omega)⟩
theorem RL.drew {now : Int} {w wr : World} {sv : Value} {k : Nat} {L : List Pk} (x : RL M h now w wr sv k L) : RL M h now w wr.drew sv k L := ⟨x.dt, x.sl.below (show Below wr.heap.size wr wr.drew by go_grown), x.ts.drew⟩
theorem ins_sl {w : World} {B : Nat} {v : Value} {L : List Pk} {j : Nat} {p : Pd} {hok : p.ok} (hj : j ≤ L.length) (h : Sl w B 37 34 v (j + (1 + (L.length - j))) ((cellsP L).take (j * 34) ++ (p.cells ++ cellsP (L.drop j)))) :
    Sl w B 37 34 v (L.take j ++ ([(⟨p, hok⟩ : Pk)] ++ L.drop j)).length (cellsP (L.take j ++ ([(⟨p, hok⟩ : Pk)] ++ L.drop j))) := by
  have e : cellsP (L.take j ++ ([(⟨p, hok⟩ : Pk)] ++ L.drop j)) = (cellsP L).take (j * 34) ++ (p.cells ++ cellsP (L.drop j)) := by
    rw [cellsP_append, cellsP_append, cellsP_take]
    congr 2
    simp [cellsP, encP]
  rw [e, List.length_append, List.length_append, List.length_take, List.length_drop, Nat.min_eq_left hj]
  exact h
theorem row_of {w : World} {b k : Nat} {p : Pd} (hb : w.heap[b]? = some (.cells (tabA M h) 40)) (h1 : 1 ≤ k) (h4 : k ≤ 4) (hp : M k = some p) : w.rangeAt b (5 + k * 34) p.cells := by
  have := tb_rng hb h1 h4
  rw [hp] at this
  exact this
theorem step_lit {ops : Array Oper} {o : Oper} {a : Act} {w : World} {K : Act → World → Prop} {Q : Exit → Act → World → Prop} {E : Prop} {p : Pd} (hg : o.guard = none) (x : Operand) (hop : o.op = .buildSlice 48 1 #[(0, x)]) (hx : a.eval x = .agg p.arr) (hp : p.ok)
    (hK : K (a.put o.dst (.slice (some ⟨w.heap.size, 0, none⟩) 1 1)) (w.alloc (.cells p.arr 37))) : if Region.wanted o (yielded ops a.tmps) = true then Oper.wp Try.prog o a w K Q else E := by
  have hw : Region.wanted o (yielded ops a.tmps) = true := by simp [Region.wanted, hg]
  rw [if_pos hw]
  cases hie : Try.prog.info? 37 with
  | none => have := info37'; rw [hie] at this; cases this
  | some ie =>
    have h44 := info37'
    rw [hie] at h44
    simp only [Option.map_some, Option.some.injEq, Prod.mk.injEq] at h44
    obtain ⟨z, hz⟩ := Option.isSome_iff_exists.1 h44.1
    refine wp_buildSlice 48 37 1 #[(0, x)] hop p.arr ie z Try.underlying48 hie hz (by rw [h44.2]; omega) (by rw [h44.2]; omega) ?_ hK
    simp only [List.map_toArray, List.map_cons, List.map_nil, hx, h44.2]
    exact fill_one (by simp) (Pd.size hp)
theorem lit_sl {p : Pd} (hp : p.ok) (w : World) : Sl (w.alloc (.cells p.arr 37)) w.heap.size 37 34 (.slice (some ⟨w.heap.size, 0, none⟩) 1 1) 1 p.cells := by
  have := Sl.made w (B := w.heap.size) 37 34 1 p.arr (Nat.le_refl _) (by unfold maxLen; omega) (by rw [Pd.size hp])
  exact this
set_option maxHeartbeats 32000000 in
theorem rdue_any (now : Int) (w : World) : Calls Try.prog 15 #[.agg (tabA M h), .int .i64 now] w (DueV M now w) := by
  obtain ⟨i0, hi, hz0, hz1, hz2⟩ := info_parts37
  have hts : TS M h w (w.alloc (.cells (tabA M h) 40)) := ⟨heap_alloc_new w _, by go_grown⟩
  have HTS := Lib.hid hts
  clear hts
  go_enter Try.func15, Try.ntmps15
  go_wp2
  go_loopw [5, 6] (fun sv i wr => ∃ (k : Nat) (L : List Pk), 1 ≤ k ∧ k ≤ 5 ∧ i = .int .i64 k ∧ RL M h now w wr sv k L) (fun _ i _ => 5 - (intOf i).toNat)
  case atStart => exact ⟨1, [], by omega, by omega, rfl, ⟨dueTo_start M now, Sl.nil _ _ _ _, HTS.out⟩⟩
  case round =>
    obtain ⟨k, L, hk1, hk5, rfl, hrl⟩ := hrel
    have HR := Lib.hid hrl
    clear hrl
    by_cases h4 : k ≤ 4
    · have his := tb_is HR.out.ts.tb hk1 h4
      have hdu := tb_du HR.out.ts.tb hk1 h4
      have hk' : k < 5 := by omega
      cases hm : M k with
      | none =>
        rw [hm] at his
        have HM := Lib.hid hm
        clear hm hdu
        go_wp2_with fail
        go_roundw
        case rel => exact ⟨k + 1, L, by omega, by omega, by go_num, ⟨dueTo_skip HR.out.dt (fun p hp => by rw [HM.out] at hp; cases hp), HR.out.sl, HR.out.ts⟩⟩
        case measure => simp [intOf]; omega
      | some p =>
        have hq : vOf (M k) = p := by rw [hm]; rfl
        rw [hm] at his
        rw [hq] at hdu
        have hok := h.ok _ _ hm
        have HM := Lib.hid (And.intro hm hok)
        clear hm hq hok
        by_cases hd : p.du ≤ now
        · have d1 : decide (now < p.du) = false := decide_eq_false (by omega)
          have HD := Lib.hid hd
          clear hd
          go_wp2_with fail
          go_loopw [7] (fun i wq => ∃ j : Nat, i = .int .i64 j ∧ Place L p j ∧ RL M h now w wq u5 k L) (fun i _ => L.length - (intOf i).toNat)
          case atStart => exact ⟨0, rfl, ⟨Nat.zero_le _, fun t ht h0 => absurd h0 (Nat.not_lt_zero _)⟩, HR.out⟩
          case round =>
            obtain ⟨j, rfl, hpl, hrq⟩ := hrel
            have HJ := Lib.hid (And.intro hpl hrq)
            have hfew0 : L.length ≤ 4 := by have := HR.out.dt.few; omega
            clear hpl hrq
            by_cases hjl : j < L.length
            · obtain ⟨b, off, cap, rfl, hcap, hcm⟩ := HJ.out.2.sl.shape (by omega)
              have x9 := row_range HJ.out.2.sl hjl 9 _ rfl
              have hdu2 := tb_du HJ.out.2.ts.tb hk1 h4
              rw [show vOf (M k) = p by rw [HM.out.1]; rfl] at hdu2
              by_cases hle : L[j].1.du ≤ p.du
              · have d2 : decide (L[j].1.du ≤ p.du) = true := decide_eq_true hle
                have HLE := Lib.hid hle
                clear hle
                go_wp2_with fail
                go_region
                go_wp2_with fail
                go_roundw
                case rel => exact ⟨j + 1, by go_num, ⟨by omega, fun t ht h1 => by
                  rcases Nat.lt_or_ge t j with h2 | h2
                  · exact HJ.out.1.low t ht h2
                  · obtain rfl : t = j := by omega
                    exact HLE.out⟩, HJ.out.2.drew⟩
                case measure => simp [intOf]; omega
              · have d2 : decide (L[j].1.du ≤ p.du) = false := decide_eq_false hle
                have HLE := Lib.hid hle
                clear hle
                go_wp2_with fail
                go_region
                have hrl9 := HJ.out.2.drew.drew
                have hend : ∀ hl : j < L.length, ¬ L[j].1.du ≤ p.du := fun _ => by have := HLE.out; omega
                have hnew := dueTo_put h hk1 HR.out.dt HM.out.1 HD.out HJ.out.1 hend
                have HNEW := Lib.hid hnew
                have hjl := HJ.out.1.le
                have hfew : L.length ≤ 4 := by have := HR.out.dt.few; omega
                have hjc : j ≤ cap := by omega
                have hjci : (j : Int) ≤ (cap : Int) := by omega
                have hjli : (j : Int) ≤ (L.length : Int) := by omega
                obtain ⟨A, hA, hA2⟩ : ∃ A : Addr, (if cap = j then some (⟨b, off, none⟩ : Addr) else some ⟨b, off + j * 34, none⟩) = some A ∧ ∀ W, Sl W (w.heap.size + 1) 37 34 (.slice (some ⟨b, off, none⟩) L.length cap) L.length (cellsP L) → ∀ t u, (cellsP (L.drop j))[t]? = some u → W.cell? (A.add t) = some u := by
                  by_cases hc : cap = j
                  · refine ⟨⟨b, off, none⟩, by simp [hc], fun W hW t u hu => ?_⟩
                    have h0 : L.drop j = [] := List.drop_eq_nil_of_le (by omega)
                    rw [h0] at hu
                    simp [cellsP] at hu
                  · refine ⟨⟨b, off + j * 34, none⟩, by simp [hc], fun W hW t u hu => ?_⟩
                    rw [addr_add]
                    rw [← cellsP_drop, List.getElem?_drop] at hu
                    rw [Nat.add_assoc]
                    exact hW.cell hu
                have hb0 := hrl9.sl.ge b rfl
                have hblt := hrl9.sl.lt b rfl
                have hwl := Nat.lt_of_lt_of_le (heap_lt hrl9.ts.tb) (Nat.le_refl _)
                have HA2 := Lib.hid hA2
                have H9 := Lib.hid hrl9
                have HN := Lib.hid (And.intro hb0 (And.intro hblt hwl))
                clear hnew hA2 hrl9 hend hb0 hblt hwl
                go_wp2_with fail
                have hki : (k : Int) < 5 := by omega
                have hld : ∀ w', (w'.heap[w.heap.size]? = some (.cells (tabA M h) 40)) → (Instr.loadAt 37 (.pointer (some ⟨w.heap.size, 5 + k * 34, none⟩))).run Try.prog w' = .ok (.agg p.arr) w' := fun w' hS => run_loadAt_mid w' w.heap.size (5 + k * 34) 37 p.cells _ (row_of hS hk1 h4 HM.out.1) Try.underlying37 rfl (by rw [Pd.len HM.out.2]; exact size37)
                have hS0 := H9.out.ts
                refine W.wp_region_flow2_lit [(0, false), (1, false), (2, false), (3, false), (4, false), (5, false), (6, false), (8, false), (9, false), (10, false), (7, true), (11, true), (12, true), (13, false)] (fun w' => TS M h w w') (by kernel_rfl) (by kernel_rfl) (by kernel_rfl) hS0 ?_
                clear hS0
                repeat (first | (refine' flow2_pass (o := _) rfl _ _; (focus rfl); simp only [Act.put, List.setIfInBounds_toArray, List.set_cons_zero, List.set_cons_succ]) | (refine' flow2_take (v := _) (o := _) rfl _ _ _; rotate_left; (focus rfl); (focus (intro wS hS; have hE := Ext.refl wS; (skip); go_simp; try (with_reducible (first | exact ⟨rfl, hS, hE⟩ | rfl)); done)); simp only [Act.put, List.setIfInBounds_toArray, List.set_cons_zero, List.set_cons_succ]))
                (refine flow2_take (v := .agg p.arr) (o := _) rfl rfl (fun wS hS => gives_mid rfl rfl HM.out.2 (row_of hS.tb hk1 h4 HM.out.1) ⟨hS, Ext.refl wS⟩) ?_; simp only [Act.put, List.setIfInBounds_toArray, List.set_cons_zero, List.set_cons_succ])
                repeat (first | (refine' flow2_pass (o := _) rfl _ _; (focus rfl); simp only [Act.put, List.setIfInBounds_toArray, List.set_cons_zero, List.set_cons_succ]) | (refine' flow2_take (v := _) (o := _) rfl _ _ _; rotate_left; (focus rfl); (focus (intro wS hS; have hE := Ext.refl wS; (skip); go_simp; try (with_reducible (first | exact ⟨rfl, hS, hE⟩ | rfl)); done)); simp only [Act.put, List.setIfInBounds_toArray, List.set_cons_zero, List.set_cons_succ]))
                refine flow2_turn (o := _) rfl rfl ?_
                intro w7 hE7 hS7 K hK
                have hTS7 : TS M h w (w7.alloc (.cells p.arr 37)) := hS7.below (by go_grown)
                refine turn_lit (p := p) rfl rfl HM.out.2 (hK _ _ hTS7 ?_)
                clear hK K
                have hSl7 := (H9.out.sl.below hE7)
                have H7 := Lib.hid (And.intro (hSl7.below (show Below w7.heap.size w7 (w7.alloc (.cells p.arr 37)) by go_grown)) (And.intro (heap_lt hS7.tb) (And.intro (lit_sl HM.out.2 w7) (hSl7.lt _ rfl))))
                clear hSl7 hE7 hS7 hTS7
                simp only [Act.put, List.setIfInBounds_toArray, List.set_cons_zero, List.set_cons_succ]
                refine flow2_turn (o := _) rfl rfl ?_
                intro w11 hE11 hS11 K hK
                obtain ⟨v1, w1, hr1, hs1, hg1, ho1⟩ := run_append_sl (P := Try.prog) w11 48 48 37 i0 (.agg zP.arr) 34 320 Try.underlying48 hi hz0 hz1 hz2 (Pd.size zP_ok) (by decide) _ 1 p.cells (H7.out.2.2.1.below hE11) (some A) (L.length - j) (cap - j) (cellsP (L.drop j)) (by simp) (by rw [cellsP_len, List.length_drop]) (by intro ad had; cases had; exact HA2.out _ (H7.out.1.below hE11)) (cellsP_one _) (by unfold maxLen; omega) (by omega) (Nat.le_trans (by rw [alloc_size]; omega) hE11.size)
                obtain ⟨A1, c1, rfl, hc1, hc2⟩ := hs1.any
                have hTS1 : TS M h w w1 := hS11.grown hg1 H7.out.2.1
                refine turn_app rfl rfl (by first | rfl | (simp [Act.eval, hA])) hr1 (hK _ _ hTS1 ?_)
                clear hK K
                have H11 := Lib.hid (And.intro hs1 (H7.out.1.below hE11 |>.grown hg1 (.inr (fun e => by have := H7.out.2.2.2; simp only [Value.ownBlock] at e; cases e; exact absurd this (Nat.lt_irrefl _)))))
                clear hr1 hg1 ho1 hE11 hS11 hTS1 hs1
                simp only [Act.put, List.setIfInBounds_toArray, List.set_cons_zero, List.set_cons_succ]
                refine flow2_turn (o := _) rfl rfl ?_
                intro w12 hE12 hS12 K hK
                have hs1' := H11.out.1.below hE12
                obtain ⟨v2, w2, hr2, hs2, hg2, ho2⟩ := run_append_sl (P := Try.prog) w12 48 48 37 i0 (.agg zP.arr) 34 320 Try.underlying48 hi hz0 hz1 hz2 (Pd.size zP_ok) (by decide) _ j _ ((H11.out.2.below hE12).pre hjl) A1 (1 + (L.length - j)) c1 (p.cells ++ cellsP (L.drop j)) (fun e => hs1'.news.1 e) hs1'.1 (fun ad e => hs1'.news.2 ad e) (by intro u hu; rcases List.mem_append.1 hu with h1 | h1; exact cellsP_one [⟨p, HM.out.2⟩] u (by simpa [cellsP, encP] using h1); exact cellsP_one _ u h1) (by unfold maxLen; omega) (by omega) (Nat.succ_le_of_lt (heap_lt hS12.tb))
                have hTS2 : TS M h w w2 := hS12.grown hg2 (Nat.lt_of_lt_of_le (Nat.lt_succ_self _) HN.out.1)
                refine turn_app rfl rfl rfl hr2 (hK _ _ hTS2 ?_)
                clear hK K
                have H12 := Lib.hid (ins_sl (hok := HM.out.2) hjl hs2)
                clear hr2 hg2 ho2 hE12 hS12 hTS2 hs2 hs1'
                simp only [Act.put, List.setIfInBounds_toArray, List.set_cons_zero, List.set_cons_succ]
                repeat (first | (refine' flow2_pass (o := _) rfl _ _; (focus rfl); simp only [Act.put, List.setIfInBounds_toArray, List.set_cons_zero, List.set_cons_succ]) | (refine' flow2_take (v := _) (o := _) rfl _ _ _; rotate_left; (focus rfl); (focus (intro wS hS; have hE := Ext.refl wS; (skip); go_simp; try (with_reducible (first | exact ⟨rfl, hS, hE⟩ | rfl)); done)); simp only [Act.put, List.setIfInBounds_toArray, List.set_cons_zero, List.set_cons_succ]))
                refine flow2_nil ?_
                intro w13 hE13 hS13
                have H13 := Lib.hid (And.intro (H12.out.below hE13) hS13)
                clear hE13 hS13
                go_wp2_with fail
                go_roundw
                case rel => exact ⟨k + 1, _, by omega, by omega, by go_num, ⟨HNEW.out, H13.out.1, H13.out.2⟩⟩
                case measure => simp [intOf]; omega
            · rcases HJ.out.2.sl.2 with ⟨hv, hn⟩ | ⟨b, off, cap, cur, hv, _, _, hcap, hcm, _, _⟩
              · have hL : L = [] := List.eq_nil_of_length_eq_zero hn
                clear hn
                subst hL
                subst hv
                have hj0 : j = 0 := by have := HJ.out.1.le; simpa using this
                subst hj0
                have HNJ := Lib.hid hjl
                clear hjl
                simp only [Int.natCast_zero]
                go_wp2_with fail
                go_region
                have hrl9 := HJ.out.2.drew.drew
                have hend : ∀ hl : 0 < ([] : List Pk).length, ¬ ([] : List Pk)[0].1.du ≤ p.du := fun hl => absurd hl HNJ.out
                have hnew := dueTo_put h hk1 HR.out.dt HM.out.1 HD.out HJ.out.1 hend
                have HNEW := Lib.hid hnew
                have hjl := HJ.out.1.le
                have hfew : ([] : List Pk).length ≤ 4 := by have := HR.out.dt.few; omega
                have H9 := Lib.hid hrl9
                clear hnew hrl9 hend
                go_wp2_with fail
                have hki : (k : Int) < 5 := by omega
                have hld : ∀ w', (w'.heap[w.heap.size]? = some (.cells (tabA M h) 40)) → (Instr.loadAt 37 (.pointer (some ⟨w.heap.size, 5 + k * 34, none⟩))).run Try.prog w' = .ok (.agg p.arr) w' := fun w' hS => run_loadAt_mid w' w.heap.size (5 + k * 34) 37 p.cells _ (row_of hS hk1 h4 HM.out.1) Try.underlying37 rfl (by rw [Pd.len HM.out.2]; exact size37)
                have hS0 := H9.out.ts
                refine W.wp_region_flow2_lit [(0, false), (1, false), (2, false), (3, false), (4, false), (5, false), (6, false), (8, false), (9, false), (10, false), (7, true), (11, true), (12, true), (13, false)] (fun w' => TS M h w w') (by kernel_rfl) (by kernel_rfl) (by kernel_rfl) hS0 ?_
                clear hS0
                repeat (first | (refine' flow2_pass (o := _) rfl _ _; (focus rfl); simp only [Act.put, List.setIfInBounds_toArray, List.set_cons_zero, List.set_cons_succ]) | (refine' flow2_take (v := _) (o := _) rfl _ _ _; rotate_left; (focus rfl); (focus (intro wS hS; have hE := Ext.refl wS; (skip); go_simp; try (with_reducible (first | exact ⟨rfl, hS, hE⟩ | rfl)); done)); simp only [Act.put, List.setIfInBounds_toArray, List.set_cons_zero, List.set_cons_succ]))
                (refine flow2_take (v := .agg p.arr) (o := _) rfl rfl (fun wS hS => gives_mid rfl rfl HM.out.2 (row_of hS.tb hk1 h4 HM.out.1) ⟨hS, Ext.refl wS⟩) ?_; simp only [Act.put, List.setIfInBounds_toArray, List.set_cons_zero, List.set_cons_succ])
                repeat (first | (refine' flow2_pass (o := _) rfl _ _; (focus rfl); simp only [Act.put, List.setIfInBounds_toArray, List.set_cons_zero, List.set_cons_succ]) | (refine' flow2_take (v := _) (o := _) rfl _ _ _; rotate_left; (focus rfl); (focus (intro wS hS; have hE := Ext.refl wS; (skip); go_simp; try (with_reducible (first | exact ⟨rfl, hS, hE⟩ | rfl)); done)); simp only [Act.put, List.setIfInBounds_toArray, List.set_cons_zero, List.set_cons_succ]))
                refine flow2_turn (o := _) rfl rfl ?_
                intro w7 hE7 hS7 K hK
                have hTS7 : TS M h w (w7.alloc (.cells p.arr 37)) := hS7.below (by go_grown)
                refine turn_lit (p := p) rfl rfl HM.out.2 (hK _ _ hTS7 ?_)
                clear hK K
                have hSl7 := (H9.out.sl.below hE7)
                have H7 := Lib.hid (And.intro (hSl7.below (show Below w7.heap.size w7 (w7.alloc (.cells p.arr 37)) by go_grown)) (And.intro (heap_lt hS7.tb) (And.intro (lit_sl HM.out.2 w7) trivial)))
                clear hSl7 hE7 hS7 hTS7
                simp only [Act.put, List.setIfInBounds_toArray, List.set_cons_zero, List.set_cons_succ]
                refine flow2_turn (o := _) rfl rfl ?_
                intro w11 hE11 hS11 K hK
                obtain ⟨v1, w1, hr1, hs1, hg1, ho1⟩ := run_append_sl (P := Try.prog) w11 48 48 37 i0 (.agg zP.arr) 34 320 Try.underlying48 hi hz0 hz1 hz2 (Pd.size zP_ok) (by decide) _ 1 p.cells (H7.out.2.2.1.below hE11) none 0 0 [] (by simp) rfl (by simp) (by simp) (by unfold maxLen; omega) (by omega) (Nat.le_trans (by rw [alloc_size]; omega) hE11.size)
                obtain ⟨A1, c1, rfl, hc1, hc2⟩ := hs1.any
                have hTS1 : TS M h w w1 := hS11.grown hg1 H7.out.2.1
                refine turn_app rfl rfl (by first | rfl | simp [Act.eval]) hr1 (hK _ _ hTS1 ?_)
                clear hK K
                have H11 := Lib.hid (And.intro hs1 (H7.out.1.below hE11 |>.grown hg1 (.inl rfl)))
                clear hr1 hg1 ho1 hE11 hS11 hTS1 hs1
                simp only [Act.put, List.setIfInBounds_toArray, List.set_cons_zero, List.set_cons_succ]
                refine flow2_turn (o := _) rfl rfl ?_
                intro w12 hE12 hS12 K hK
                have hs1' := H11.out.1.below hE12
                obtain ⟨v2, w2, hr2, hs2, hg2, ho2⟩ := run_append_sl (P := Try.prog) w12 48 48 37 i0 (.agg zP.arr) 34 320 Try.underlying48 hi hz0 hz1 hz2 (Pd.size zP_ok) (by decide) _ 0 [] (Sl.nil _ _ _ _) A1 (1 + 0) c1 (p.cells ++ []) (fun e => hs1'.news.1 e) hs1'.1 (fun ad e => hs1'.news.2 ad e) (by intro u hu; rcases List.mem_append.1 hu with h1 | h1; exact cellsP_one [⟨p, HM.out.2⟩] u (by simpa [cellsP, encP] using h1); cases h1) (by unfold maxLen; omega) (by omega) (Nat.succ_le_of_lt (heap_lt hS12.tb))
                have hTS2 : TS M h w w2 := hS12.below (show Below _ _ _ from Below.refl _ _ |>.grown hg2 (Nat.le_refl _) (fun j hj => by cases hj))
                refine turn_app rfl rfl rfl hr2 (hK _ _ hTS2 ?_)
                clear hK K
                have H12 := Lib.hid (ins_sl (L := []) (j := 0) (hok := HM.out.2) (Nat.le_refl _) hs2)
                clear hr2 hg2 ho2 hE12 hS12 hTS2 hs2 hs1'
                simp only [Act.put, List.setIfInBounds_toArray, List.set_cons_zero, List.set_cons_succ]
                repeat (first | (refine' flow2_pass (o := _) rfl _ _; (focus rfl); simp only [Act.put, List.setIfInBounds_toArray, List.set_cons_zero, List.set_cons_succ]) | (refine' flow2_take (v := _) (o := _) rfl _ _ _; rotate_left; (focus rfl); (focus (intro wS hS; have hE := Ext.refl wS; (skip); go_simp; try (with_reducible (first | exact ⟨rfl, hS, hE⟩ | rfl)); done)); simp only [Act.put, List.setIfInBounds_toArray, List.set_cons_zero, List.set_cons_succ]))
                refine flow2_nil ?_
                intro w13 hE13 hS13
                have H13 := Lib.hid (And.intro (H12.out.below hE13) hS13)
                clear hE13 hS13
                go_wp2_with fail
                go_roundw
                case rel => exact ⟨k + 1, _, by omega, by omega, by go_num, ⟨HNEW.out, H13.out.1, H13.out.2⟩⟩
                case measure => simp [intOf]; omega
              · subst hv
                have d0 : decide (j < L.length) = false := decide_eq_false hjl
                have HNJ := Lib.hid hjl
                clear hjl
                go_wp2_with fail
                go_region
                have hrl9 := HJ.out.2.drew.drew
                have hend : ∀ hl : j < L.length, ¬ L[j].1.du ≤ p.du := fun hl => absurd hl HNJ.out
                have hnew := dueTo_put h hk1 HR.out.dt HM.out.1 HD.out HJ.out.1 hend
                have HNEW := Lib.hid hnew
                have hjl := HJ.out.1.le
                have hfew : L.length ≤ 4 := by have := HR.out.dt.few; omega
                have hjc : j ≤ cap := by omega
                have hjci : (j : Int) ≤ (cap : Int) := by omega
                have hjli : (j : Int) ≤ (L.length : Int) := by omega
                obtain ⟨A, hA, hA2⟩ : ∃ A : Addr, (if cap = j then some (⟨b, off, none⟩ : Addr) else some ⟨b, off + j * 34, none⟩) = some A ∧ ∀ W, Sl W (w.heap.size + 1) 37 34 (.slice (some ⟨b, off, none⟩) L.length cap) L.length (cellsP L) → ∀ t u, (cellsP (L.drop j))[t]? = some u → W.cell? (A.add t) = some u := by
                  by_cases hc : cap = j
                  · refine ⟨⟨b, off, none⟩, by simp [hc], fun W hW t u hu => ?_⟩
                    have h0 : L.drop j = [] := List.drop_eq_nil_of_le (by omega)
                    rw [h0] at hu
                    simp [cellsP] at hu
                  · refine ⟨⟨b, off + j * 34, none⟩, by simp [hc], fun W hW t u hu => ?_⟩
                    rw [addr_add]
                    rw [← cellsP_drop, List.getElem?_drop] at hu
                    rw [Nat.add_assoc]
                    exact hW.cell hu
                have hb0 := hrl9.sl.ge b rfl
                have hblt := hrl9.sl.lt b rfl
                have hwl := Nat.lt_of_lt_of_le (heap_lt hrl9.ts.tb) (Nat.le_refl _)
                have HA2 := Lib.hid hA2
                have H9 := Lib.hid hrl9
                have HN := Lib.hid (And.intro hb0 (And.intro hblt hwl))
                clear hnew hA2 hrl9 hend hb0 hblt hwl
                go_wp2_with fail
                have hki : (k : Int) < 5 := by omega
                have hld : ∀ w', (w'.heap[w.heap.size]? = some (.cells (tabA M h) 40)) → (Instr.loadAt 37 (.pointer (some ⟨w.heap.size, 5 + k * 34, none⟩))).run Try.prog w' = .ok (.agg p.arr) w' := fun w' hS => run_loadAt_mid w' w.heap.size (5 + k * 34) 37 p.cells _ (row_of hS hk1 h4 HM.out.1) Try.underlying37 rfl (by rw [Pd.len HM.out.2]; exact size37)
                have hS0 := H9.out.ts
                refine W.wp_region_flow2_lit [(0, false), (1, false), (2, false), (3, false), (4, false), (5, false), (6, false), (8, false), (9, false), (10, false), (7, true), (11, true), (12, true), (13, false)] (fun w' => TS M h w w') (by kernel_rfl) (by kernel_rfl) (by kernel_rfl) hS0 ?_
                clear hS0
                repeat (first | (refine' flow2_pass (o := _) rfl _ _; (focus rfl); simp only [Act.put, List.setIfInBounds_toArray, List.set_cons_zero, List.set_cons_succ]) | (refine' flow2_take (v := _) (o := _) rfl _ _ _; rotate_left; (focus rfl); (focus (intro wS hS; have hE := Ext.refl wS; (skip); go_simp; try (with_reducible (first | exact ⟨rfl, hS, hE⟩ | rfl)); done)); simp only [Act.put, List.setIfInBounds_toArray, List.set_cons_zero, List.set_cons_succ]))
                (refine flow2_take (v := .agg p.arr) (o := _) rfl rfl (fun wS hS => gives_mid rfl rfl HM.out.2 (row_of hS.tb hk1 h4 HM.out.1) ⟨hS, Ext.refl wS⟩) ?_; simp only [Act.put, List.setIfInBounds_toArray, List.set_cons_zero, List.set_cons_succ])
                repeat (first | (refine' flow2_pass (o := _) rfl _ _; (focus rfl); simp only [Act.put, List.setIfInBounds_toArray, List.set_cons_zero, List.set_cons_succ]) | (refine' flow2_take (v := _) (o := _) rfl _ _ _; rotate_left; (focus rfl); (focus (intro wS hS; have hE := Ext.refl wS; (skip); go_simp; try (with_reducible (first | exact ⟨rfl, hS, hE⟩ | rfl)); done)); simp only [Act.put, List.setIfInBounds_toArray, List.set_cons_zero, List.set_cons_succ]))
                refine flow2_turn (o := _) rfl rfl ?_
                intro w7 hE7 hS7 K hK
                have hTS7 : TS M h w (w7.alloc (.cells p.arr 37)) := hS7.below (by go_grown)
                refine turn_lit (p := p) rfl rfl HM.out.2 (hK _ _ hTS7 ?_)
                clear hK K
                have hSl7 := (H9.out.sl.below hE7)
                have H7 := Lib.hid (And.intro (hSl7.below (show Below w7.heap.size w7 (w7.alloc (.cells p.arr 37)) by go_grown)) (And.intro (heap_lt hS7.tb) (And.intro (lit_sl HM.out.2 w7) (hSl7.lt _ rfl))))
                clear hSl7 hE7 hS7 hTS7
                simp only [Act.put, List.setIfInBounds_toArray, List.set_cons_zero, List.set_cons_succ]
                refine flow2_turn (o := _) rfl rfl ?_
                intro w11 hE11 hS11 K hK
                obtain ⟨v1, w1, hr1, hs1, hg1, ho1⟩ := run_append_sl (P := Try.prog) w11 48 48 37 i0 (.agg zP.arr) 34 320 Try.underlying48 hi hz0 hz1 hz2 (Pd.size zP_ok) (by decide) _ 1 p.cells (H7.out.2.2.1.below hE11) (some A) (L.length - j) (cap - j) (cellsP (L.drop j)) (by simp) (by rw [cellsP_len, List.length_drop]) (by intro ad had; cases had; exact HA2.out _ (H7.out.1.below hE11)) (cellsP_one _) (by unfold maxLen; omega) (by omega) (Nat.le_trans (by rw [alloc_size]; omega) hE11.size)
                obtain ⟨A1, c1, rfl, hc1, hc2⟩ := hs1.any
                have hTS1 : TS M h w w1 := hS11.grown hg1 H7.out.2.1
                refine turn_app rfl rfl (by first | rfl | (simp [Act.eval, hA])) hr1 (hK _ _ hTS1 ?_)
                clear hK K
                have H11 := Lib.hid (And.intro hs1 (H7.out.1.below hE11 |>.grown hg1 (.inr (fun e => by have := H7.out.2.2.2; simp only [Value.ownBlock] at e; cases e; exact absurd this (Nat.lt_irrefl _)))))
                clear hr1 hg1 ho1 hE11 hS11 hTS1 hs1
                simp only [Act.put, List.setIfInBounds_toArray, List.set_cons_zero, List.set_cons_succ]
                refine flow2_turn (o := _) rfl rfl ?_
                intro w12 hE12 hS12 K hK
                have hs1' := H11.out.1.below hE12
                obtain ⟨v2, w2, hr2, hs2, hg2, ho2⟩ := run_append_sl (P := Try.prog) w12 48 48 37 i0 (.agg zP.arr) 34 320 Try.underlying48 hi hz0 hz1 hz2 (Pd.size zP_ok) (by decide) _ j _ ((H11.out.2.below hE12).pre hjl) A1 (1 + (L.length - j)) c1 (p.cells ++ cellsP (L.drop j)) (fun e => hs1'.news.1 e) hs1'.1 (fun ad e => hs1'.news.2 ad e) (by intro u hu; rcases List.mem_append.1 hu with h1 | h1; exact cellsP_one [⟨p, HM.out.2⟩] u (by simpa [cellsP, encP] using h1); exact cellsP_one _ u h1) (by unfold maxLen; omega) (by omega) (Nat.succ_le_of_lt (heap_lt hS12.tb))
                have hTS2 : TS M h w w2 := hS12.grown hg2 (Nat.lt_of_lt_of_le (Nat.lt_succ_self _) HN.out.1)
                refine turn_app rfl rfl rfl hr2 (hK _ _ hTS2 ?_)
                clear hK K
                have H12 := Lib.hid (ins_sl (hok := HM.out.2) hjl hs2)
                clear hr2 hg2 ho2 hE12 hS12 hTS2 hs2 hs1'
                simp only [Act.put, List.setIfInBounds_toArray, List.set_cons_zero, List.set_cons_succ]
                repeat (first | (refine' flow2_pass (o := _) rfl _ _; (focus rfl); simp only [Act.put, List.setIfInBounds_toArray, List.set_cons_zero, List.set_cons_succ]) | (refine' flow2_take (v := _) (o := _) rfl _ _ _; rotate_left; (focus rfl); (focus (intro wS hS; have hE := Ext.refl wS; (skip); go_simp; try (with_reducible (first | exact ⟨rfl, hS, hE⟩ | rfl)); done)); simp only [Act.put, List.setIfInBounds_toArray, List.set_cons_zero, List.set_cons_succ]))
                refine flow2_nil ?_
                intro w13 hE13 hS13
                have H13 := Lib.hid (And.intro (H12.out.below hE13) hS13)
                clear hE13 hS13
                go_wp2_with fail
                go_roundw
                case rel => exact ⟨k + 1, _, by omega, by omega, by go_num, ⟨HNEW.out, H13.out.1, H13.out.2⟩⟩
                case measure => simp [intOf]; omega
        · have d1 : decide (now < p.du) = true := decide_eq_true (by omega)
          have HD := Lib.hid hd
          clear hd
          go_wp2_with fail
          go_roundw
          case rel => exact ⟨k + 1, L, by omega, by omega, by go_num, ⟨dueTo_skip HR.out.dt (fun q hq => by rw [HM.out.1] at hq; cases hq; exact HD.out), HR.out.sl, HR.out.ts⟩⟩
          case measure => simp [intOf]; omega
    · have hk5' : k = 5 := by omega
      have hd5 := HR.out.dt
      rw [hk5'] at hd5
      have hdl := dueTo_end h hd5
      clear hk5' hd5
      have HDL := Lib.hid hdl
      obtain ⟨A, cap, rfl, _, _⟩ := HR.out.sl.any
      clear hdl
      go_wp2_with fail
      go_ret
      exact ⟨A, cap, L, rfl, HR.out.sl.mono (by omega), HR.out.ts.bl, HDL.out⟩
end
end Go.Proofs.Ytbhiddppohbjhaa
