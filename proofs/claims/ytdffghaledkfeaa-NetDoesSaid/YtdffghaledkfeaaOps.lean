/- net.Net: there, node, New, Send. -/
import Derived.Test.YtdffghaledkfeaaObj
import Derived.StillTailTactics
namespace Go.Proofs.Ytdffghaledkfeaa
set_option maxRecDepth 100000
open Go Go.RowKit Go.Maps Go.WideShapes Go.ChangeMaps Go.WideMaps Go.MapKept

theorem node_yes (i : Int) (w : World) (h0 : 0 ≤ i) (h1 : i ≤ 63) : Calls Try.prog 20 #[.int .i64 i] w fun e w' => e = .returned (.bool true) ∧ w = w' := by
  go_enter Try.func20, Try.ntmps20
  go_wp2
  go_ret
  exact ⟨rfl, rfl⟩
theorem node_no (i : Int) (w : World) (h : ¬ (0 ≤ i ∧ i ≤ 63)) : Calls Try.prog 20 #[.int .i64 i] w fun e w' => e = .returned (.bool false) ∧ w = w' := by
  by_cases h0 : 0 ≤ i
  · have h1 : ¬ i ≤ 63 := fun h1 => h ⟨h0, h1⟩
    go_enter Try.func20, Try.ntmps20
    go_wp2
    go_ret
    exact ⟨rfl, rfl⟩
  · go_enter Try.func20, Try.ntmps20
    go_wp2
    go_ret
    exact ⟨rfl, rfl⟩

theorem there_yes {w : World} {B g mb c : Nat} {v : Value} {V : Int → Value} {way : List Pk} {came : Int → List Pk} (h : NetAt w B g mb c v V way came) (k : Nat) (hk : k < way.length) :
    Calls Try.prog 24 #[.pointer (some ⟨g, 0, none⟩), .int .i64 k] w fun e w' => e = .returned (.bool true) ∧ w = w' := by
  obtain ⟨A, cap, rfl, _, _⟩ := h.row.any
  have c0 := h.cc0
  have hfew := h.few
  clear h
  go_enter Try.func24, Try.ntmps24
  go_wp2
  go_ret
  exact ⟨rfl, rfl⟩
theorem there_no {w : World} {B g mb c : Nat} {v : Value} {V : Int → Value} {way : List Pk} {came : Int → List Pk} (h : NetAt w B g mb c v V way came) (i : Int) (hi : ¬ (0 ≤ i ∧ i < way.length)) :
    Calls Try.prog 24 #[.pointer (some ⟨g, 0, none⟩), .int .i64 i] w fun e w' => e = .returned (.bool false) ∧ w = w' := by
  obtain ⟨A, cap, rfl, _, _⟩ := h.row.any
  have c0 := h.cc0
  have hfew := h.few
  clear h
  by_cases h0 : 0 ≤ i
  · have h1 : ¬ i < (way.length : Int) := fun h1 => hi ⟨h0, h1⟩
    clear hi
    go_enter Try.func24, Try.ntmps24
    go_wp2
    go_ret
    exact ⟨rfl, rfl⟩
  · clear hi
    go_enter Try.func24, Try.ntmps24
    go_wp2
    go_ret
    exact ⟨rfl, rfl⟩

/-! ### New -/
theorem new_any (w : World) : Calls Try.prog 8 #[] w fun e w' => ∃ g mb, e = .returned (.pointer (some ⟨g, 0, none⟩)) ∧ Below w.heap.size w w' ∧ NetAt w' w.heap.size g mb 0 nilS (fun _ => nilS) [] (fun _ => []) := by
  have hmm := @run_makeMap Try.prog
  go_enter Try.func8, Try.ntmps8
  go_wp2
  go_ret
  refine ⟨w.heap.size + 1, w.heap.size, rfl, by go_grown, ⟨?_, Sl.nil _ _ _ _, ⟨.map [], 0, ?_, Nat.le_refl _, fun k => rfl⟩, fun _ => Sl.nil _ _ _ _, fun _ => disj_nil _, fun _ _ _ => disj_nil _, by omega, Nat.le_refl _, by simp, by simp, by omega⟩⟩
  · show ((w.heap.push _).push _)[w.heap.size + 1]? = _
    rw [Array.getElem?_push, if_pos (by simp)]; rfl
  · have := World.ownsMap_made w Try.prog 3 heldR
    obtain ⟨es, ck, hb, r⟩ := this
    exact ⟨es, ck, (alloc_old _ _ _ (by rw [alloc_size]; omega)).trans hb, r⟩

/-! ### Send -/
def May (way : List Pk) (p : Pk) : Prop := way.length < 512 ∧ (0 ≤ p.f ∧ p.f ≤ 63) ∧ (0 ≤ p.t ∧ p.t ≤ 63) ∧ p.f ≠ p.t ∧ p.d.size ≤ 2048
instance (way : List Pk) (p : Pk) : Decidable (May way p) := by unfold May; infer_instance
def Pk.val (p : Pk) : Value := .agg #[.int .i64 p.f, .int .i64 p.t, .string p.d]
def SentV (B g mb c : Nat) (v : Value) (V : Int → Value) (way : List Pk) (came : Int → List Pk) (p : Pk) (w : World) (e : Ending) (w' : World) : Prop :=
  ∃ v', e = .returned (.bool (decide (May way p))) ∧ Turn g mb w w' v v' V V ∧ NetAt w' B g mb c v' V (if May way p then way ++ [p] else way) came
section
variable {w : World} {B g mb c : Nat} {v : Value} {V : Int → Value} {way : List Pk} {came : Int → List Pk}
theorem SentV.stay (h : NetAt w B g mb c v V way came) {p : Pk} (hm : ¬ May way p) {w' : World} (hb : Below w.heap.size w w') : SentV B g mb c v V way came p w (.returned (.bool false)) w' :=
  ⟨v, by rw [decide_eq_false hm], Turn.of_below hb, by rw [if_neg hm]; exact h.below hb⟩

set_option maxHeartbeats 1000000 in
theorem send_no (h : NetAt w B g mb c v V way came) (p : Pk) (hm : ¬ May way p) :
    Calls Try.prog 9 #[.pointer (some ⟨g, 0, none⟩), .agg #[.int .i64 p.f, .int .i64 p.t, .string p.d]] w (SentV B g mb c v V way came p w) := by
  obtain ⟨A, cap, rfl, _, _⟩ := h.row.any
  have c0 := h.cc0
  have hg0 := h.glt
  have hg1 : ¬ g = w.heap.size := by omega
  have hfew := h.few
  have HS := Lib.hid (fun w' (hb : Below w.heap.size w w') => SentV.stay h hm hb)
  clear h
  have h0 : way.length = 512 ∨ way.length < 512 := by omega
  rcases h0 with h0 | h0
  · have h1 : (512 : Int) ≤ (way.length : Int) := by omega
    clear hm
    go_enter Try.func9, Try.ntmps9
    go_wp2_with fail
    go_returns
    exact HS.out _ (by go_grown)
  have h1 : ¬ (512 : Int) ≤ (way.length : Int) := by omega
  by_cases h2 : 0 ≤ p.f ∧ p.f ≤ 63
  · have N1 := Lib.hid (fun w => node_yes p.f w h2.1 h2.2)
    by_cases h3 : 0 ≤ p.t ∧ p.t ≤ 63
    · have N2 := Lib.hid (fun w => node_yes p.t w h3.1 h3.2)
      by_cases h4 : p.f = p.t
      · have h7 : (p.f == p.t) = true := by simp [h4]
        clear hm h2 h3 h4
        go_enter Try.func9, Try.ntmps9
        go_wp2_with fail
        refine (N1.out _).mono ?_
        rintro e w' ⟨rfl, rfl⟩
        go_wp2_with fail
        refine (N2.out _).mono ?_
        rintro e w' ⟨rfl, rfl⟩
        go_wp2_with fail
        go_returns
        exact HS.out _ (by go_grown)
      · have h5 : ¬ p.d.size ≤ 2048 := fun h5 => hm ⟨h0, h2, h3, h4, h5⟩
        have h6 : (2048 : Int) < (p.d.size : Int) := by omega
        have h7 : (p.f == p.t) = false := by simp [h4]
        clear hm h2 h3 h4 h5
        go_enter Try.func9, Try.ntmps9
        go_wp2_with fail
        refine (N1.out _).mono ?_
        rintro e w' ⟨rfl, rfl⟩
        go_wp2_with fail
        refine (N2.out _).mono ?_
        rintro e w' ⟨rfl, rfl⟩
        go_wp2_with fail
        go_returns
        exact HS.out _ (by go_grown)
    · have N2 := Lib.hid (fun w => node_no p.t w h3)
      clear hm h2 h3
      go_enter Try.func9, Try.ntmps9
      go_wp2_with fail
      refine (N1.out _).mono ?_
      rintro e w' ⟨rfl, rfl⟩
      go_wp2_with fail
      refine (N2.out _).mono ?_
      rintro e w' ⟨rfl, rfl⟩
      go_wp2_with fail
      go_returns
      exact HS.out _ (by go_grown)
  · have N1 := Lib.hid (fun w => node_no p.f w h2)
    clear hm h2
    go_enter Try.func9, Try.ntmps9
    go_wp2_with fail
    refine (N1.out _).mono ?_
    rintro e w' ⟨rfl, rfl⟩
    go_wp2_with fail
    go_returns
    exact HS.out _ (by go_grown)

/-- a row stored in the net's first cell -/
theorem NetAt.putWay {w1 : World} (h : NetAt w1 B g mb c v V way came) {v' : Value} {way' : List Pk} (hr : Rw w1 B v' way') (hd : ∀ k, disj v' (V k)) (hl : way'.length ≤ 512) :
    NetAt (w1.setCell ⟨g, 0, none⟩ v') B g mb c v' V way' came := by
  have hng := hr.sl.off h.obj (by decide)
  have hb : ∀ q, q ≠ g → (w1.setCell ⟨g, 0, none⟩ v').heap[q]? = w1.heap[q]? := fun q hq => Below.heap_setCell _ _ _ _ (by simpa using hq)
  refine ⟨?_, hr.sl.of fun k hk => hb k fun e => hng (by rw [hk, e]), h.map.of (hb mb h.gm.symm), fun k => (h.rows k).sl.of fun q hq => hb q fun e => h.gV k (by rw [hq, e]), hd, h.dd, h.g0, h.m0, hl, h.cfew, h.c0⟩
  rw [setCell_heap h.obj]; rfl
/-- another row in the net's stead, while the net's object still holds the old one: all but the row itself stays -/
theorem NetAt.row' {w1 : World} (h : NetAt w B g mb c v V way came) (hg : w.grownBy w1 v.ownBlock) :
    w1.heap[g]? = some (.cells #[v, .map (some mb)] 51) ∧ MapAt w1 mb c V ∧ ∀ k, Rw w1 B (V k) (came k) := by
  refine ⟨(hg.block g h.glt fun e => h.gv e.symm).trans h.obj, h.map.of (hg.block mb h.map.lt fun e => h.mv e.symm), fun k => (h.rows k).sl.of fun q hq => hg.block q ((h.rows k).sl.lt q hq) fun e => h.dv k q e.symm hq⟩
/-- a new row of the packets under way, made of the old one, is stored -/
theorem NetAt.wayPut {w0 w1 : World} (h : NetAt w B g mb c v V way came) (hb : Below w.heap.size w w0) {v' : Value} {way' : List Pk} (hr : Rw w1 B v' way') (hg : w0.grownBy w1 v.ownBlock)
    (ho : ∀ k, v'.ownBlock = some k → v.ownBlock = some k ∨ w0.heap.size ≤ k) (hl : way'.length ≤ 512) :
    NetAt (w1.setCell ⟨g, 0, none⟩ v') B g mb c v' V way' came ∧ Turn g mb w (w1.setCell ⟨g, 0, none⟩ v') v v' V V := by
  obtain ⟨h1, h2, h3⟩ := (h.below hb).row' hg
  have ho' : ∀ k, v'.ownBlock = some k → v.ownBlock = some k ∨ w.heap.size ≤ k := fun k hk => (ho k hk).imp id fun hk => Nat.le_trans hb.size hk
  have hd : ∀ k, disj v' (V k) := by
    intro k q hq hV
    rcases ho' q hq with e | e
    · exact h.dv k q e hV
    · have := (h.rows k).sl.lt q hV
      omega
  have hng := hr.sl.off h1 (by decide)
  have hb1 : ∀ q, q ≠ g → (w1.setCell ⟨g, 0, none⟩ v').heap[q]? = w1.heap[q]? := fun q hq => Below.heap_setCell _ _ _ _ (by simpa using hq)
  refine ⟨⟨?_, hr.sl.of fun k hk => hb1 k fun e => hng (by rw [hk, e]), h2.of (hb1 mb h.gm.symm), fun k => (h3 k).sl.of fun q hq => hb1 q fun e => h.gV k (by rw [hq, e]), hd, h.dd, h.g0, h.m0, hl, h.cfew, h.c0⟩, ⟨?_, ?_, ?_, ?_, ?_, ?_⟩⟩
  · rw [setCell_heap h1]; rfl
  · exact hg.os.trans hb.os
  · exact hg.tape.trans hb.tape
  · exact hg.output.trans hb.output
  · have := hb.size
    have := hg.size
    simp [World.setCell]; omega
  · intro q hq hn
    rw [hb1 q fun e => hn (.inl e), hg.block q (Nat.lt_of_lt_of_le hq hb.size) fun e => hn (.inr (.inr (.inl e.symm))), hb.block q hq]
  · rintro q (hq | hq | hq | hq)
    · exact .inl (.inl hq)
    · exact .inl (.inr (.inl hq))
    · exact (ho' q hq).imp (fun h => .inr (.inr (.inl h))) id
    · exact .inl (.inr (.inr (.inr hq)))

theorem heap_new_at (W : World) (o : Obj) {S : Nat} (h : W.heap.size = S) : (W.alloc o).heap[S]? = some o := h ▸ heap_alloc_new W o
theorem row_news3 {W : World} {S : Nat} {f t : Int} {d : ByteArray} (h : W.heap[S]? = some (.cells #[.int .i64 f, .int .i64 t, .string d] 23)) : ∀ ad, some (⟨S, 0, none⟩ : Addr) = some ad → ∀ j u, [Value.int .i64 f, .int .i64 t, .string d][j]? = some u → W.cell? (ad.add j) = some u := by
  intro ad had j u hu
  cases had
  rw [addr_add, row_cell h]
  match j, hu with
  | 0, hu => simpa using hu
  | 1, hu => simpa using hu
  | 2, hu => simpa using hu
theorem NetAt.sent (h : NetAt w B g mb c v V way came) {p : Pk} (hl : way.length < 512) {w0 w1 : World} {v' : Value} (hb : Below w.heap.size w w0) (hsl : Sl w1 B 23 3 v' (way.length + 1) (cells3 way ++ [.int .i64 p.f, .int .i64 p.t, .string p.d]))
    (hg : w0.grownBy w1 v.ownBlock) (ho : ∀ k, v'.ownBlock = some k → v.ownBlock = some k ∨ w0.heap.size ≤ k) :
    w1.cell? ⟨g, 0, none⟩ = some v ∧ w1.frozen? ⟨g, 0, none⟩ = false ∧ NetAt (w1.setCell ⟨g, 0, none⟩ v') B g mb c v' V (way ++ [p]) came ∧ Turn g mb w (w1.setCell ⟨g, 0, none⟩ v') v v' V V := by
  obtain ⟨h1, h2, h3⟩ := (h.below hb).row' hg
  have hr : Rw w1 B v' (way ++ [p]) := by
    show Sl _ _ _ _ _ _ _
    rw [List.length_append, List.length_singleton, cells3_append]
    exact hsl
  exact ⟨by rw [row_cell h1]; rfl, row_froz h1 0, h.wayPut hb hr hg ho (by simp; omega)⟩

set_option maxHeartbeats 4000000 in
theorem send_yes (h : NetAt w B g mb c v V way came) (hB : B ≤ w.heap.size) (p : Pk) (hm : May way p) :
    Calls Try.prog 9 #[.pointer (some ⟨g, 0, none⟩), .agg #[.int .i64 p.f, .int .i64 p.t, .string p.d]] w (SentV B g mb c v V way came p w) := by
  obtain ⟨i0, hi, hz0, hz1, hz2⟩ := info_parts info23
  obtain ⟨A, cap, rfl, _, _⟩ := h.row.any
  have c0 := h.cc0
  have hg0 := h.glt
  have hg1 : ¬ g = w.heap.size := by omega
  have HAT := Lib.hid h
  have HM := Lib.hid hm
  have h0 := hm.1
  have h1 : ¬ (512 : Int) ≤ (way.length : Int) := by omega
  have N1 := Lib.hid (fun w => node_yes p.f w hm.2.1.1 hm.2.1.2)
  have N2 := Lib.hid (fun w => node_yes p.t w hm.2.2.1.1 hm.2.2.1.2)
  have h7 : (p.f == p.t) = false := by simp [hm.2.2.2.1]
  have h5 : ¬ (2048 : Int) < (p.d.size : Int) := by have := hm.2.2.2.2; omega
  clear h hm
  go_enter Try.func9, Try.ntmps9
  go_wp2_with fail
  refine (N1.out _).mono ?_
  rintro e w' ⟨rfl, rfl⟩
  go_wp2_with fail
  refine (N2.out _).mono ?_
  rintro e w' ⟨rfl, rfl⟩
  go_wp2_with fail
  go_region_law (refine step_append_sl rfl (.tmp 44) (.tmp 46) 30 rfl 23 i0 (.agg #[.int .i64 0, .int .i64 0, .string ⟨#[]⟩]) 3 32 Try.underlying30 hi hz0 hz1 hz2 rfl (by decide) (v := .slice A way.length cap) (by simp [Act.eval, Act.put]) (HAT.out.row.sl.below (by go_grown)) (some ⟨w.heap.size + 1, 0, none⟩) 1 1 [.int .i64 p.f, .int .i64 p.t, .string p.d] (by simp [Act.eval, Act.put]) (by simp) rfl (row_news3 (heap_new_at _ _ (by first | rfl | (show (World.alloc _ _).heap.size = _; rw [alloc_size]) | simp))) (by intro u hu; simp at hu; rcases hu with rfl | rfl | rfl <;> rfl) (by unfold maxLen; omega) (by omega) (by exact Nat.le_trans hB (show Below w.heap.size w _ by go_grown).size) ?_; intro v4 w4 hsl hgrow hown; obtain ⟨b', off', cap', rfl, _, _⟩ := hsl.shape (by omega); obtain ⟨p0, pf, h10⟩ := HAT.out.sent (p := p) h0 (by go_grown) hsl hgrow hown; clear hsl hgrow hown)
  all_goals
    have H11 := Lib.hid h10
    clear h10 p0 pf
    go_wp2_with fail
    go_returns
    exact ⟨_, by rw [decide_eq_true HM.out]; rfl, H11.out.2, by rw [if_pos HM.out]; exact H11.out.1⟩
end
end Go.Proofs.Ytdffghaledkfeaa
