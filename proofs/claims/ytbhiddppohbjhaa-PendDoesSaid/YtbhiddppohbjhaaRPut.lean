/- posthouseref26.Table: By, Put. -/
import Derived.Test.YtbhiddppohbjhaaROf
namespace Go.Proofs.Ytbhiddppohbjhaa
open Go Go.RowKit Go.Maps Go.WideShapes Go.ChangeMaps Go.WideMaps Go.MapKept
set_option maxRecDepth 100000
section
variable {M : Tb} {h : Tok M}
set_option maxHeartbeats 8000000 in
theorem rby_any (u : Int) (w : World) : Calls Try.prog 19 #[.agg (tabA M h), .int .i64 u] w (OfV (byK M u) w) := by
  have hb2 : ((w.alloc (.cells (tabA M h) 40)).alloc (.cells zP.arr 37)).heap[w.heap.size]? = some (.cells (tabA M h) 40) := heap_old_at (heap_alloc_new w _)
  have HB := Lib.hid hb2
  have HBL : Hid (Below w.heap.size w ((w.alloc (.cells (tabA M h) 40)).alloc (.cells zP.arr 37))) := Lib.hid (by go_grown)
  clear hb2
  go_enter Try.func19, Try.ntmps19
  go_wp2_with (first | (refine pw_alloc rfl rfl ?_))
  go_loop [6] (fun i => ∃ k : Nat, 1 ≤ k ∧ k ≤ 5 ∧ i = .int .i64 k ∧ byTo M u k) (fun i => 5 - (intOf i).toNat)
  case atStart => exact ⟨1, by omega, by omega, rfl, fun j h1 h2 => by omega⟩
  case round =>
    obtain ⟨k, hk1, hk5, rfl, hto⟩ := hrel
    have HT := Lib.hid hto
    clear hto
    by_cases hlt : k ≤ 4
    · have his := tb_is HB.out hk1 hlt
      have hup := tb_up HB.out hk1 hlt
      have hrg := tb_rng HB.out hk1 hlt
      have hk' : k < 5 := by omega
      cases hm : M k with
      | none =>
        rw [hm] at his
        have HM := Lib.hid hm
        clear hm hup hrg
        go_wp2
        go_round
        case rel => exact ⟨k + 1, by omega, by omega, by go_num, by_next HT.out (by rw [HM.out]; rfl)⟩
        case measure => simp [intOf]; omega
      | some q =>
        have hq : vOf (M k) = q := by rw [hm]; rfl
        rw [hm] at his
        rw [hq] at hup hrg
        have hok := h.ok _ _ hm
        have HM := Lib.hid hm
        have HR := Lib.hid (And.intro hrg hok)
        clear hm hq hrg hok
        by_cases hu : q.up = u
        · have hu1 : (q.up == u) = true := by simp [hu]
          have HU := Lib.hid hu
          clear hu
          go_wp2_with (first
            | (refine pw_load_mid rfl (.tmp 26) rfl w.heap.size (5 + k * 34) rfl q HR.out.2 HR.out.1 ?_)
            | (refine pw_store rfl (.tmp 4) (.tmp 27) rfl (w.heap.size + 1) q HR.out.2 zP.arr (Pd.size zP_ok) rfl rfl (heap_new_at _ _ (alloc_size _ _)) ?_; intro w2 hb2 hg2 hs2))
          (try simp only [Exit.inBlock, Exit.then])
          refine bodyPost_ret (res_two Try.results19 _ _ (w.heap.size + 1) q HR.out.2 (.bool true) rfl rfl hb2) rfl ?_
          exact ⟨by rw [by_at HT.out hk1 hlt (by rw [HM.out]; simp [upIs, HU.out]), HM.out]; rfl, HBL.out.grown hg2 (by rw [alloc_size, alloc_size]; omega) (fun j hj => by cases hj; omega)⟩
        · have hu1 : (q.up == u) = false := by simp [hu]
          have HU := Lib.hid hu
          clear hu
          go_wp2
          go_round
          case rel => exact ⟨k + 1, by omega, by omega, by go_num, by_next HT.out (by rw [HM.out]; simp [upIs, HU.out])⟩
          case measure => simp [intOf]; omega
    · have HN := Lib.hid (by_none (M := M) (u := u) (by rw [show 5 = k by omega]; exact HT.out))
      go_wp2_with (first | (refine pw_build rfl rfl ?_) | (refine pw_store rfl (.tmp 4) (.tmp 28) rfl (w.heap.size + 1) zP zP_ok zP.arr (Pd.size zP_ok) rfl rfl (heap_new_at _ _ (alloc_size _ _)) ?_; intro w2 hb2 hg2 hs2))
      (try simp only [Exit.inBlock, Exit.then])
      refine bodyPost_ret (res_two Try.results19 _ _ (w.heap.size + 1) zP zP_ok _ rfl rfl hb2) rfl ?_
      exact ⟨by rw [HN.out]; rfl, HBL.out.grown hg2 (by rw [alloc_size, alloc_size]; omega) (fun j hj => by cases hj; omega)⟩
end
/-! ### whole tables -/
section
variable {w : World} {ops : Array Oper} {rest : List Oper} {o : Oper} {a : Act} {Q : Exit → Act → World → Prop}
def zT : Array Value := tabA (fun _ => none) tok_nil
theorem alloc40 (w : World) : (Instr.alloc 40 true (.tuple #[])).run Try.prog w = .ok (.pointer (some ⟨w.heap.size, 0, none⟩)) (w.alloc (.cells zT 40)) := by kernel_rfl
theorem pw_alloc40 (hgd : o.guard = none) (ho : o.op = .alloc 40) (h : wpList Try.prog ops Q rest (a.put o.dst (.pointer (some ⟨w.heap.size, 0, none⟩))) (w.alloc (.cells zT 40))) : wpList Try.prog ops Q (o :: rest) a w := by
  refine wpList_plain hgd fun K hK => ?_
  unfold Oper.wp execOp
  simp only [ho, Sem.run_bind, Sem.run_pure, Result.andThen_ok, alloc40]
  exact hK _ _ h
theorem setCells_all40 {w : World} {b : Nat} {C D : Array Value} (hb : w.heap[b]? = some (.cells C 40)) (hs : D.size = C.size) : (w.setCells b 0 D.toList).heap[b]? = some (.cells D 40) := by
  rw [setCells_heap _ _ _ _ hb, overl_all hs]
theorem there_all40 {w : World} {b : Nat} {C : Array Value} {n : Nat} (hb : w.heap[b]? = some (.cells C 40)) (hs : n = C.size) : w.there b 0 n := fun j hj => by
  rw [Nat.zero_add, row_cell hb, row_froz hb]
  exact ⟨by rw [Array.getElem?_eq_getElem (by omega)]; rfl, rfl⟩
theorem pw_store40 (hgd : o.guard = none) (x y : Operand) (ho : o.op = .store 40 x y) (b : Nat) (T : Array Value) (hT : T.size = 175) (h1 : T.all (·.oneCell') = true) (C : Array Value) (hC : C.size = 175) (hx : a.eval x = .pointer (some ⟨b, 0, none⟩)) (hy : a.eval y = .agg T) (hb : w.heap[b]? = some (.cells C 40))
    (h : ∀ w', w'.heap[b]? = some (.cells T 40) → w.grownBy w' (some b) → w'.heap.size = w.heap.size → wpList Try.prog ops Q rest (a.put o.dst undef) w') : wpList Try.prog ops Q (o :: rest) a w := by
  have hs : T.size = C.size := by rw [hT, hC]
  refine wpList_store_mid hgd 40 x y ho b 0 T hx hy (there_all40 hb hs) (by rw [hT]; exact size40) h1 ?_
  exact h _ (setCells_all40 hb hs) (setCells_grown _ _ _ _) (setCells_size _ _ _ _)
theorem pw_load40 (hgd : o.guard = none) (x : Operand) (ho : o.op = .load 40 x) (b : Nat) (hx : a.eval x = .pointer (some ⟨b, 0, none⟩)) (T : Array Value) (hT : T.size = 175) (hb : w.heap[b]? = some (.cells T 40))
    (h : wpList Try.prog ops Q rest (a.put o.dst (.agg T)) w) : wpList Try.prog ops Q (o :: rest) a w :=
  wpList_load_row hgd 40 x ho b hx 40 T _ _ hb Try.underlying40 rfl (by rw [hT]; exact size40) h
/-- a row stored into a table's block -/
theorem pw_row (hgd : o.guard = none) (x y : Operand) (ho : o.op = .store 37 x y) (b q : Nat) (p : Pd) (hp : p.ok) (C : Array Value) (hC : q + 34 ≤ C.size) (hx : a.eval x = .pointer (some ⟨b, q, none⟩)) (hy : a.eval y = .agg p.arr) (hb : w.heap[b]? = some (.cells C 40))
    (h : ∀ w', w'.heap[b]? = some (.cells (overl C q p.cells) 40) → w.grownBy w' (some b) → w'.heap.size = w.heap.size → wpList Try.prog ops Q rest (a.put o.dst undef) w') : wpList Try.prog ops Q (o :: rest) a w := by
  refine wpList_store_mid hgd 37 x y ho b q p.arr hx hy (fun j hj => ?_) (by rw [Pd.size hp]; exact size37) (Pd.all hp) ?_
  · rw [Pd.size hp] at hj
    rw [row_cell hb, row_froz hb]
    exact ⟨by rw [Array.getElem?_eq_getElem (by omega)]; rfl, rfl⟩
  · exact h _ (setCells_heap p.cells q w C hb) (setCells_grown _ _ _ _) (setCells_size _ _ _ _)
end
theorem load_row40 {w : World} {b : Nat} {T : Array Value} (hT : T.size = 175) (hb : w.heap[b]? = some (.cells T 40)) : (loadVar 40 ⟨b, 0, none⟩).run Try.prog w = .ok (.agg T) w :=
  run_loadVar_row w b 40 40 T _ _ hb Try.underlying40 rfl (by rw [hT]; exact size40)
theorem res_tab {fn : Func} {c s : Nat} (h : fn.results = #[.cell c 40, .tmp s]) (tmps : Array Value) (w : World) (g : Nat) (T : Array Value) (hT : T.size = 175) (v : Value) (hc : tmps.getD c undef = .pointer (some ⟨g, 0, none⟩)) (hs : tmps.getD s undef = v) (hb : w.heap[g]? = some (.cells T 40)) :
    (results fn tmps).run Try.prog w = .ok (.tuple #[.agg T, v]) w := by
  have hlv := load_row40 hT hb
  have hc' : tmps[c]?.getD undef = .pointer (some ⟨g, 0, none⟩) := by simpa using hc
  have hs' : tmps[s]?.getD undef = v := by simpa using hs
  simp [results, h, hc', hs', asAddr, hlv]
theorem can_iff {M : Tb} (h : Tok M) (p : Pd) : canPut M p ↔ (1 ≤ p.cl ∧ p.cl ≤ 4) ∧ ∀ k : Nat, 1 ≤ k → k ≤ 4 → (k : Int) ≠ p.cl → upIs (M k) p.up = false := by
  constructor
  · rintro ⟨h1, h2⟩
    refine ⟨h1, fun k hk1 hk4 hne => ?_⟩
    cases hu : upIs (M k) p.up with
    | false => rfl
    | true =>
      exfalso
      cases hm : M k with
      | none => rw [hm] at hu; cases hu
      | some q =>
        have hqu : q.up = p.up := by rw [hm] at hu; simpa [upIs] using hu
        cases hb : byK M p.up with
        | none => exact by_not hb (by omega) (by omega) hm hqu
        | some o =>
          obtain ⟨j, _, _, hj, hju⟩ := by_some hb
          have e1 := h.un j k o q hj hm (by rw [hju, hqu])
          have e2 := h.me j o hj
          have e3 := h2 o hb
          omega
  · rintro ⟨h1, h2⟩
    refine ⟨h1, fun o ho => ?_⟩
    obtain ⟨j, hj1, hj4, hj, hju⟩ := by_some ho
    have e2 := h.me j o hj
    by_cases hne : j = p.cl
    · omega
    · obtain ⟨n, rfl⟩ : ∃ n : Nat, j = n := ⟨j.toNat, by omega⟩
      have := h2 n (by omega) (by omega) hne
      rw [hj] at this
      simp [upIs, hju] at this
end Go.Proofs.Ytbhiddppohbjhaa
