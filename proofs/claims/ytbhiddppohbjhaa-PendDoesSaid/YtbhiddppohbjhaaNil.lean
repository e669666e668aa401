/- PendNil: the walk. -/
import Derived.Test.YtbhiddppohbjhaaKnown
import Derived.Test.YtbhiddppohbjhaaLarge
import Derived.Great.BuildSlice
namespace Go.Proofs.Ytbhiddppohbjhaa
open Go Go.RowKit Go.Maps Go.WideShapes Go.ChangeMaps Go.WideMaps Go.MapKept
set_option maxRecDepth 100000
section
variable {w : World} {ops : Array Oper} {rest : List Oper} {o : Oper} {a : Act} {Q : Exit → Act → World → Prop}
theorem wpList_want {P : Program} (hw : Region.wanted o (yielded ops a.tmps) = true) (h : ∀ K : Act → World → Prop, (∀ a w, wpList P ops Q rest a w → K a w) → o.wp P a w K Q) : wpList P ops Q (o :: rest) a w :=
  wpList_step fun K hK => by rw [if_pos hw]; exact h K hK
/-- the same steps, where a guard lets them be -/
theorem gw_load (x : Operand) (ho : o.op = .load 37 x) (hw : Region.wanted o (yielded ops a.tmps) = true) (b : Nat) (hx : a.eval x = .pointer (some ⟨b, 0, none⟩)) (p : Pd) (hp : p.ok) (hb : w.heap[b]? = some (.cells p.arr 37))
    (h : wpList Try.prog ops Q rest (a.put o.dst (.agg p.arr)) w) : wpList Try.prog ops Q (o :: rest) a w :=
  wpList_want hw fun K hK => wp_load_row 37 x ho b hx 37 p.arr _ _ hb Try.underlying37 rfl (by rw [Pd.size hp]; exact size37) (hK _ _ h)
theorem gw_build (ho : o.op = .build 37 #[]) (hw : Region.wanted o (yielded ops a.tmps) = true) (h : wpList Try.prog ops Q rest (a.put o.dst (.agg zP.arr)) w) : wpList Try.prog ops Q (o :: rest) a w := by
  refine wpList_want hw fun K hK => ?_
  unfold Oper.wp execOp
  simp only [ho, Sem.run_bind, Sem.run_pure, Result.andThen_ok, List.map_toArray, List.map_nil, build37]
  exact hK _ _ h
theorem noGuard : Try.prog.eqGuardType Try.prog.depth 37 = false := by kernel_rfl
theorem gw_eq (x y : Operand) (t : TypeId) (ho : o.op = .binOp .eql 37 x y t) (hw : Region.wanted o (yielded ops a.tmps) = true) (p : Pd) (hp : p.ok) (hx : a.eval x = .agg p.arr) (hy : a.eval y = .agg p.arr)
    (h : wpList Try.prog ops Q rest (a.put o.dst (.bool true)) w) : wpList Try.prog ops Q (o :: rest) a w := by
  refine wpList_want hw fun K hK => ?_
  unfold Oper.wp execOp
  simp only [ho, hx, hy, Sem.run_bind, Sem.run_pure, Result.andThen_ok, run_eqGuard_agg (hm := noGuard), run_eql_struct, equal_self hp]
  exact hK _ _ h
theorem gw_neq (x y : Operand) (t : TypeId) (ho : o.op = .binOp .neq 37 x y t) (hw : Region.wanted o (yielded ops a.tmps) = true) (p : Pd) (hp : p.ok) (hx : a.eval x = .agg p.arr) (hy : a.eval y = .agg p.arr)
    (h : wpList Try.prog ops Q rest (a.put o.dst (.bool false)) w) : wpList Try.prog ops Q (o :: rest) a w := by
  refine wpList_want hw fun K hK => ?_
  unfold Oper.wp execOp
  simp only [ho, hx, hy, Sem.run_bind, Sem.run_pure, Result.andThen_ok, run_eqGuard_agg (hm := noGuard), run_neq_struct, equal_self hp, Bool.not_true]
  exact hK _ _ h
/-- a whole step loaded out of a block of one -/
theorem pw_load44 (hgd : o.guard = none) (x : Operand) (ho : o.op = .load 44 x) (b : Nat) (hx : a.eval x = .pointer (some ⟨b, 0, none⟩)) (s : St) (hs : s.ok) (hb : w.heap[b]? = some (.cells s.arr 44))
    (h : wpList Try.prog ops Q rest (a.put o.dst (.agg s.arr)) w) : wpList Try.prog ops Q (o :: rest) a w :=
  wpList_load_row hgd 44 x ho b hx 44 s.arr _ _ hb Try.underlying44 rfl (by rw [St.size hs]; exact size44) h
theorem pw_load44_mid (hgd : o.guard = none) (x : Operand) (ho : o.op = .load 44 x) (b q : Nat) (hx : a.eval x = .pointer (some ⟨b, q, none⟩)) (s : St) (hs : s.ok) (hb : w.rangeAt b q s.cells)
    (h : wpList Try.prog ops Q rest (a.put o.dst (.agg s.arr)) w) : wpList Try.prog ops Q (o :: rest) a w :=
  wpList_load_mid hgd 44 x ho b q hx s.cells _ hb Try.underlying44 rfl (by rw [St.len hs]; exact size44) h
end
theorem foldl_overl : ∀ (L : List Value) (o m : Nat) (Z : Array Value), m = 0 → (L.zipIdx o).foldl (fun cs (x : Value × Nat) => cs.setIfInBounds (m + x.2) x.1) Z = overl Z o L
  | [], _, _, _, _ => rfl
  | v :: L, o, m, Z, hm => by
    rw [List.zipIdx_cons, List.foldl_cons, foldl_overl L (o + 1) m _ hm, overl]
    congr 1
    rw [hm, Nat.zero_add]
theorem fill_one {n : Nat} {Z C : Array Value} (hZ : Z.size = n) (hC : C.size = n) : Instr.fill (fun i => some (i * n, n)) Z [(0, .agg C)] = some C := by
  have h1 : (Value.agg C).cells = C := rfl
  have hn : ¬ (C.size ≠ n ∨ 0 * n + C.size > Z.size) := by omega
  have e : (C.zipIdx.foldl (fun (cs : Array Value) (x : Value × Nat) => cs.setIfInBounds (0 * n + x.2) x.1) Z) = C := by
    rw [← Array.foldl_toList, Array.toList_zipIdx, foldl_overl C.toList 0 (0 * n) Z (Nat.zero_mul n)]
    exact overl_all (by omega)
  simp only [Instr.fill, h1]
  rw [if_neg (by simpa using hn)]
  exact congrArg some e
section
variable {w : World} {ops : Array Oper} {rest : List Oper} {o : Oper} {a : Act} {Q : Exit → Act → World → Prop}
theorem info44 : (Try.prog.info? 44).map (fun i => (i.zero.isSome, i.size)) = some (true, 38) := by kernel_rfl
/-- a slice literal of one step -/
theorem pw_lit44 (hgd : o.guard = none) (x : Operand) (ho : o.op = .buildSlice 22 1 #[(0, x)]) (s : St) (hs : s.ok) (hx : a.eval x = .agg s.arr)
    (h : wpList Try.prog ops Q rest (a.put o.dst (.slice (some ⟨w.heap.size, 0, none⟩) 1 1)) (w.alloc (.cells s.arr 44))) : wpList Try.prog ops Q (o :: rest) a w := by
  cases hie : Try.prog.info? 44 with
  | none => have := info44; rw [hie] at this; cases this
  | some ie =>
    have h44 := info44
    rw [hie] at h44
    simp only [Option.map_some, Option.some.injEq, Prod.mk.injEq] at h44
    obtain ⟨z, hz⟩ := Option.isSome_iff_exists.1 h44.1
    refine wpList_buildSlice hgd 22 44 1 #[(0, x)] ho s.arr ie z Try.underlying22 hie hz (by rw [h44.2]; omega) (by rw [h44.2]; omega) ?_ h
    simp only [List.map_toArray, List.map_cons, List.map_nil, hx, h44.2]
    exact fill_one (by simp) (St.size hs)
end
theorem due_nil (now : Int) (w : World) : Calls Try.prog 14 #[.pointer none, .int .i64 now] w fun e w' => e = .returned (.slice none 0 0) ∧ Below w.heap.size w w' := by
  have H1 := Lib.hid made_nil
  go_enter Try.func14, Try.ntmps14
  go_wp2_with fail
  refine (H1.out _).mono ?_
  rintro e w1 ⟨rfl, rfl⟩
  go_wp2_with fail
  go_ret
  exact ⟨rfl, Below.refl _ _⟩
theorem one_at {w : World} {s : St} : StsAt (w.alloc (.cells s.arr 44)) (some ⟨w.heap.size, 0, none⟩) [s] := by
  intro _
  refine ⟨w.heap.size, 0, rfl, by rw [alloc_size]; omega, fun i hi => ?_⟩
  have hi0 : i = 0 := by simpa using hi
  subst hi0
  intro j v hj
  rw [row_cell (heap_alloc_new w _)]
  simpa [St.arr] using hj
set_option maxHeartbeats 16000000 in
theorem nil_walk (s : St) (hs : s.ok) (w : World) : Calls Try.prog 5 #[.agg s.arr] w fun e w' => e = .returned (.bool true) ∧ Below w.heap.size w w' := by
  have HK := Lib.hid known_any
  have HS := Lib.hid hs
  have HDO := Lib.hid (fun w => do_nil hs w)
  have HOF := Lib.hid (of_nil s.c)
  have HBY := Lib.hid (by_nil s.n)
  have HDU := Lib.hid (due_nil s.n)
  have a1 : s.arr[1]? = some (.int .i64 s.c) := rfl
  have a2 : s.arr[2]? = some (.int .i64 s.n) := rfl
  clear hs
  have hst : StsAt ((w.alloc (.cells s.arr 44)).alloc (.cells s.arr 44)) (some ⟨w.heap.size + 1, 0, none⟩) [s] := by
    have := one_at (w := w.alloc (.cells s.arr 44)) (s := s)
    rw [alloc_size] at this
    exact this
  have HL := Lib.hid (large_any (some ⟨w.heap.size + 1, 0, none⟩) [s] 1 _ (by unfold maxLen; simp) hst (by simpa using HS.out))
  have HB0 : Hid (Below w.heap.size w ((w.alloc (.cells s.arr 44)).alloc (.cells s.arr 44))) := Lib.hid (by go_grown)
  have HX0 : Hid (((w.alloc (.cells s.arr 44)).alloc (.cells s.arr 44)).heap[w.heap.size]? = some (.cells s.arr 44)) := Lib.hid (heap_old_at (heap_alloc_new _ _))
  clear hst
  go_enter Try.func5, Try.ntmps5
  go_wp2_with (first | (refine pw_load44 rfl (.tmp 1) rfl w.heap.size rfl s HS.out (heap_alloc_new _ _) ?_) | (refine pw_lit44 rfl (.tmp 9) rfl s HS.out rfl ?_))
  refine HL.out.mono ?_
  rintro e w1 ⟨b, rfl, hb1, _⟩
  have HB1 := Lib.hid (HB0.out.trans (hb1.mono HB0.out.size))
  have HX1 := Lib.hid ((hb1.block _ (heap_lt HX0.out)).trans HX0.out)
  clear hb1
  cases b with
  | true =>
    go_wp2_with fail
    refine (HK.out _).mono ?_
    rintro e w2 ⟨rfl, hb2⟩
    have HB2 := Lib.hid (HB1.out.trans (hb2.mono HB1.out.size))
    clear hb2
    go_wp2_with fail
    go_ret
    exact ⟨rfl, HB2.out⟩
  | false =>
    go_wp2_with (first | (refine pw_load44 rfl (.tmp 1) rfl w.heap.size rfl s HS.out HX1.out ?_))
    refine (HDO.out _).mono ?_
    rintro e w2 ⟨rfl, hb2⟩
    have HB2 := Lib.hid (HB1.out.trans (hb2.mono HB1.out.size))
    have hx2 := (hb2.block _ (heap_lt HX1.out)).trans HX1.out
    have c1 : w2.cell? ⟨w.heap.size, 1, none⟩ = some (.int .i64 s.c) := by rw [row_cell hx2]; exact a1
    have HX2 := Lib.hid hx2
    clear hb2 hx2
    go_wp2_with fail
    refine (HOF.out _).mono ?_
    rintro e w3 ⟨rfl, hb3⟩
    have hx3 := (hb3.block _ (heap_lt HX2.out)).trans HX2.out
    have HB3 := Lib.hid (HB2.out.trans (hb3.mono HB2.out.size))
    have hx4 : (w3.alloc (.cells zP.arr 37)).heap[w.heap.size]? = some (.cells s.arr 44) := heap_old_at hx3
    have c2 : (w3.alloc (.cells zP.arr 37)).cell? ⟨w.heap.size, 2, none⟩ = some (.int .i64 s.n) := by rw [row_cell hx4]; exact a2
    have HX4 := Lib.hid hx4
    have HB4 := Lib.hid (HB3.out.trans ((show Below w3.heap.size w3 (w3.alloc (.cells zP.arr 37)) by go_grown).mono HB3.out.size))
    clear hb3 hx3 hx4 c1
    go_wp2_with (first | (refine pw_put _ 5 (.tmp 21) rfl rfl rfl rfl rfl rfl zP zP_ok rfl rfl ?_))
    refine (HBY.out _).mono ?_
    rintro e w5 ⟨rfl, hb5⟩
    have hx5 := (hb5.block _ (heap_lt HX4.out)).trans HX4.out
    have hz5 : w5.heap[w3.heap.size]? = some (.cells zP.arr 37) := (hb5.block _ (by rw [alloc_size]; omega)).trans (heap_alloc_new _ _)
    have HB5 := Lib.hid (HB4.out.trans (hb5.mono HB4.out.size))
    have hx6 : (w5.alloc (.cells zP.arr 37)).heap[w.heap.size]? = some (.cells s.arr 44) := heap_old_at hx5
    have c2 : (w5.alloc (.cells zP.arr 37)).cell? ⟨w.heap.size, 2, none⟩ = some (.int .i64 s.n) := by rw [row_cell hx6]; exact a2
    have HZ5 := Lib.hid (show (w5.alloc (.cells zP.arr 37)).heap[w3.heap.size]? = some (.cells zP.arr 37) from heap_old_at hz5)
    have HB6 := Lib.hid (HB5.out.trans ((show Below w5.heap.size w5 (w5.alloc (.cells zP.arr 37)) by go_grown).mono HB5.out.size))
    clear hb5 hx5 hz5 hx6
    go_wp2_with (first
      | (refine pw_put _ 7 (.tmp 28) rfl rfl rfl rfl rfl rfl zP zP_ok rfl rfl ?_)
      | (refine gw_load (.tmp 5) rfl rfl w3.heap.size rfl zP zP_ok HZ5.out ?_)
      | (refine gw_load (.tmp 7) rfl rfl w5.heap.size rfl zP zP_ok (heap_alloc_new _ _) ?_)
      | (refine gw_build rfl rfl ?_)
      | (refine gw_eq (.tmp 41) (.tmp 42) 37 rfl rfl zP zP_ok rfl rfl ?_)
      | (refine gw_eq (.tmp 46) (.tmp 47) 37 rfl rfl zP zP_ok rfl rfl ?_))
    refine (HDU.out _).mono ?_
    rintro e w7 ⟨rfl, hb7⟩
    have HB7 := Lib.hid (HB6.out.trans (hb7.mono HB6.out.size))
    clear hb7
    go_wp2_with fail
    refine (len_nil _).mono ?_
    rintro e w8 ⟨rfl, rfl⟩
    go_wp2_with fail
    refine (HK.out _).mono ?_
    rintro e w9 ⟨rfl, hb9⟩
    have HB9 := Lib.hid (HB7.out.trans (hb9.mono HB7.out.size))
    clear hb9
    go_wp2_with fail
    go_ret
    exact ⟨rfl, HB9.out⟩
end Go.Proofs.Ytbhiddppohbjhaa
