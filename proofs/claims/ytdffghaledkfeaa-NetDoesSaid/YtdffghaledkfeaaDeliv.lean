/- net.Net: Deliver. -/
import Derived.Test.YtdffghaledkfeaaCome
import Derived.Deep.RegionHeld3
namespace Go.Proofs.Ytdffghaledkfeaa
open Go Go.RowKit Go.Maps Go.WideShapes Go.ChangeMaps Go.WideMaps Go.MapKept
set_option maxRecDepth 100000
section
variable {w : World} {B g mb c : Nat} {v : Value} {V : Int → Value} {way : List Pk} {came : Int → List Pk}
theorem deliver_no (h : NetAt w B g mb c v V way came) (i : Int) (hi : ¬ (0 ≤ i ∧ i < way.length)) :
    Calls Try.prog 11 #[.pointer (some ⟨g, 0, none⟩), .int .i64 i] w fun e w' => e = .returned (.bool false) ∧ w = w' := by
  have H1 := Lib.hid (there_no h i hi)
  clear h hi
  go_enter Try.func11, Try.ntmps11
  go_wp2_with fail
  refine H1.out.mono ?_
  rintro e w' ⟨rfl, rfl⟩
  go_wp2_with fail
  go_returns
  exact ⟨rfl, rfl⟩
theorem NetAt.come (h : NetAt w B g mb c v V way came) {p : Pk} (hok : kok p.t) (hf : (came p.t).length < 64) (hc : c + 1 ≤ 1000000) {W0 w4 : World} {u : Value} (hb : Below w.heap.size w W0) {X : Obj} (hx : W0.heap[w.heap.size]? = some X)
    (hsl : Sl w4 B 23 3 u ((came p.t).length + 1) (cells3 (came p.t) ++ [.int .i64 p.f, .int .i64 p.t, .string p.d])) (hg : W0.grownBy w4 (V p.t).ownBlock) (ho : ∀ q, u.ownBlock = some q → (V p.t).ownBlock = some q ∨ W0.heap.size ≤ q) :
    w4.cell? ⟨g, 1, none⟩ = some (.map (some mb)) ∧ w4.heap[w.heap.size]? = some X ∧ ∃ w5, (Instr.mapUpdate 49 (.map (some mb)) (.int .i64 p.t) u).run Try.prog w4 = .ok () w5 ∧ w5.heap[w.heap.size]? = some X ∧
      NetAt w5 B g mb (c + 1) v (upd V p.t u) way (upd came p.t (came p.t ++ [p])) ∧ Turn g mb w w5 v v V (upd V p.t u) := by
  have h1 : w4.heap[g]? = some (.cells #[v, .map (some mb)] 51) := (hg.block g (Nat.lt_of_lt_of_le h.glt hb.size) fun e => h.gV _ e.symm).trans ((hb.block g h.glt).trans h.obj)
  have h2 : MapAt w4 mb c V := h.map.of ((hg.block mb (Nat.lt_of_lt_of_le h.map.lt hb.size) fun e => h.mV _ e.symm).trans (hb.block mb h.map.lt))
  have h3 : w4.heap[w.heap.size]? = some X := (hg.block _ (heap_lt hx) fun e => by have := (h.rows p.t).sl.lt _ e.symm; omega).trans hx
  obtain ⟨w5, hrun, hmap, hgr⟩ := h2.put hok (by have := h.c0; unfold maxLen; omega) u
  have hr : Rw w4 B u (came p.t ++ [p]) := by
    show Sl _ _ _ _ _ _ _
    rw [List.length_append, List.length_singleton, cells3_append]
    exact hsl
  refine ⟨by rw [row_cell h1]; rfl, h3, w5, hrun, (hgr.block _ (heap_lt h3) (by have := h.map.lt; simp; omega)).trans h3, h.mapPut hmap hgr (fun q hq => ?_) (Nat.le_trans hb.size hg.size) (hg.os.trans hb.os) (hg.tape.trans hb.tape) (hg.output.trans hb.output) (hr.sl.grown hgr (.inr fun e => ?_)) (fun q hq => ?_) (by simp; omega) hc⟩
  · by_cases hv : (V p.t).ownBlock = some q
    · refine .inl ⟨?_, hv⟩
      intro e; rw [e] at hv; cases hv
    · exact .inr ((hg.block q (Nat.lt_of_lt_of_le hq hb.size) fun e => hv e.symm).trans (hb.block q hq))
  · obtain ⟨es, ck, hm⟩ := h2.blk
    exact hr.sl.offMap hm e
  · exact (ho q hq).imp id fun h => Nat.le_trans hb.size h
def pkObj (p : Pk) : Obj := .cells #[.int .i64 p.f, .int .i64 p.t, .string p.d] 23
set_option maxHeartbeats 4000000 in
theorem deliver_full (h : NetAt w B g mb c v V way came) (k : Nat) (hk : k < way.length) (hok : kok way[k].t) (hf : ¬ (came way[k].t).length < 64) :
    Calls Try.prog 11 #[.pointer (some ⟨g, 0, none⟩), .int .i64 k] w fun e w' => e = .returned (.bool false) ∧ Below w.heap.size w w' := by
  have H1 := Lib.hid (there_yes h k hk)
  obtain ⟨b, off, cap, rfl, _, _⟩ := h.row.sl.shape (by omega)
  obtain ⟨d0, d1, d2⟩ := h.row.pk hk
  have c0 := h.cc0
  have c1 := h.cc1
  have hfew := h.few
  have hg0 := h.glt
  have hg1 : ¬ g = w.heap.size := by omega
  generalize hp : way[k] = p at *
  have hm : MapAt (w.alloc (pkObj p)).drew mb c V := h.map.of (alloc_old _ _ _ h.map.lt)
  have HL := hm.look hok
  obtain ⟨A, cap', hV, _, _⟩ := (h.rows p.t).sl.any
  rw [hV] at HL
  have h64 : (64 : Int) ≤ ((came p.t).length : Int) := by omega
  clear h hm hp hf
  unfold pkObj at HL
  go_enter Try.func11, Try.ntmps11
  go_wp2_with fail
  refine H1.out.mono ?_
  rintro e w' ⟨rfl, rfl⟩
  go_wp2_with fail
  go_region
  go_wp2_with fail
  go_returns
  exact ⟨rfl, by go_grown⟩
theorem first_at (w : World) (p : Pk) (o : Obj) : ((w.alloc (pkObj p)).drew.drew.alloc o).heap[w.heap.size]? = some (pkObj p) := by
  rw [alloc_old _ _ _ (by show _ < (w.alloc (pkObj p)).heap.size; rw [alloc_size]; omega)]
  exact heap_alloc_new w (pkObj p)
theorem first_at' (w : World) (p : Pk) (o : Obj) : ((w.alloc (pkObj p)).alloc o).drew.drew.heap[w.heap.size]? = some (pkObj p) := first_at w p o
theorem cell_of_pk {w : World} {q : Nat} {p : Pk} (h : w.heap[q]? = some (pkObj p)) : w.cell? ⟨q, 0, none⟩ = some (.int .i64 p.f) ∧ w.cell? ⟨q, 1, none⟩ = some (.int .i64 p.t) ∧ w.cell? ⟨q, 2, none⟩ = some (.string p.d) :=
  ⟨by rw [row_cell h]; rfl, by rw [row_cell h]; rfl, by rw [row_cell h]; rfl⟩
set_option maxHeartbeats 8000000 in
theorem deliver_yes (h : NetAt w B g mb c v V way came) (hB : B ≤ w.heap.size) (k : Nat) (hk : k < way.length) (hok : kok way[k].t) (hf : (came way[k].t).length < 64) (hc : c + 1 ≤ 1000000) :
    Calls Try.prog 11 #[.pointer (some ⟨g, 0, none⟩), .int .i64 k] w fun e w' => ∃ v' u, e = .returned (.bool true) ∧ Turn g mb w w' v v' V (upd V way[k].t u) ∧ NetAt w' B g mb (c + 1) v' (upd V way[k].t u) (out way k) (upd came way[k].t (came way[k].t ++ [way[k]])) := by
  obtain ⟨i0, hi, hz0, hz1, hz2⟩ := info_parts info23
  have H1 := Lib.hid (there_yes h k hk)
  obtain ⟨b, off, cap, rfl, _, _⟩ := h.row.sl.shape (by omega)
  obtain ⟨d0, d1, d2⟩ := h.row.pk hk
  have c0 := h.cc0
  have c1 := h.cc1
  have hfew := h.few
  have hg0 := h.glt
  have hg1 : ¬ g = w.heap.size := by omega
  have HK := Lib.hid hk
  generalize hp : way[k] = p at *
  have hm : MapAt (w.alloc (pkObj p)).drew mb c V := h.map.of (alloc_old _ _ _ h.map.lt)
  have hm2 : MapAt (w.alloc (pkObj p)).drew.drew mb c V := hm
  have hm3 : MapAt ((w.alloc (pkObj p)).alloc (pkObj p)).drew.drew mb c V := hm.of (alloc_old (w.alloc (pkObj p)) _ _ hm.lt)
  have HL := hm.look hok
  have HL2 := hm2.look hok
  have HL3 := hm3.look hok
  obtain ⟨A, cap', hV, _, _⟩ := (h.rows p.t).sl.any
  have hrow : Rw w B (.slice A (came p.t).length cap') (came p.t) := by have := h.rows p.t; rw [hV] at this; exact this
  rw [hV] at HL HL2 HL3
  have h64 : ¬ (64 : Int) ≤ ((came p.t).length : Int) := by omega
  have HAT := Lib.hid h
  have HR := Lib.hid hrow
  have HV := Lib.hid hV
  have HP := Lib.hid hp
  clear h hm hm2 hm3 hp hV hrow
  unfold pkObj at HL HL2 HL3
  go_enter Try.func11, Try.ntmps11
  go_wp2_with fail
  refine H1.out.mono ?_
  rintro e w' ⟨rfl, rfl⟩
  go_wp2_with fail
  go_region
  go_wp2_with fail
  go_region_held3 (fun w' => w'.cell? ⟨g, 1, none⟩ = some (.map (some mb)) ∧ w'.cell? ⟨w.heap.size, 0, none⟩ = some (.int .i64 p.f) ∧ w'.cell? ⟨w.heap.size, 1, none⟩ = some (.int .i64 p.t) ∧ w'.cell? ⟨w.heap.size, 2, none⟩ = some (.string p.d)) (first | exact ⟨s1, s2⟩ | exact ⟨q1, q3⟩ | go_keep)
    ((refine step_append_sl rfl (.tmp 38) (.tmp 40) 30 rfl 23 i0 (.agg #[.int .i64 0, .int .i64 0, .string ⟨#[]⟩]) 3 32 Try.underlying30 hi hz0 hz1 hz2 rfl (by decide) (v := .slice A (came p.t).length cap') (by simp [Act.eval, Act.put]) (HR.out.sl.below (by go_grown)) (some ⟨w.heap.size + 1, 0, none⟩) 1 1 [.int .i64 p.f, .int .i64 p.t, .string p.d] (by simp [Act.eval, Act.put]) (by simp) rfl (row_news3 (heap_new_at _ _ (by first | rfl | (show (World.alloc _ _).heap.size = _; rw [alloc_size]) | simp))) (by intro u hu; simp at hu; rcases hu with rfl | rfl | rfl <;> rfl) (by unfold maxLen; omega) (by omega) (by exact Nat.le_trans hB (show Below w.heap.size w _ by go_grown).size) ?_; intro u4 w4 hsl hgrow hown; obtain ⟨b', off', cap4, rfl, _, _⟩ := hsl.shape (by omega); obtain ⟨q1, q2, w5, hrun, q5, h10⟩ := HAT.out.come (p := p) hok hf hc (by go_grown) (by first | exact first_at _ _ _ | exact first_at' _ _ _) hsl (HV.out ▸ hgrow) (HV.out ▸ hown); have q3 := cell_of_pk q2; have s1 := h10.1.cc1; have s2 := cell_of_pk q5; clear hsl hgrow hown q2 q5))
  all_goals
    have H11 := Lib.hid h10
    clear h10 q1 q3 s1 s2
    go_wp2_with fail
    refine (drop_yes H11.out.1 k HK.out).mono ?_
    rintro e w6 ⟨v', rfl, hT, hN⟩
    have HX := Lib.hid (And.intro hT hN)
    clear hT hN
    go_wp2_with fail
    go_returns
    have hp := HP.out
    subst hp
    exact ⟨v', _, rfl, H11.out.2.trans HX.out.1, HX.out.2⟩
end
end Go.Proofs.Ytdffghaledkfeaa
