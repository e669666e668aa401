/- posthouseref25.Net: send, next. -/
import Derived.Test.YtdffghaledkfeaaRefOps
namespace Go.Proofs.Ytdffghaledkfeaa
open Go Go.RowKit
set_option maxRecDepth 100000
theorem rw_app {w : World} {B : Nat} {v : Value} {L : List Pk} {p : Pk} (hsl : Sl w B 23 3 v (L.length + 1) (cells3 L ++ [.int .i64 p.f, .int .i64 p.t, .string p.d])) : Rw w B v (L ++ [p]) := by
  show Sl _ _ _ _ _ _ _
  rw [List.length_append, List.length_singleton, cells3_append]
  exact hsl
section
variable {w : World} {B r : Nat} {wv cv : Value} {way cl : List Pk}
def RSentV (B r : Nat) (wv cv : Value) (way cl : List Pk) (p : Pk) (w : World) (e : Ending) (w' : World) : Prop :=
  e = .returned (.bool (decide (May way p))) ∧ ∃ wv', RTurn r w w' wv wv' cv cv ∧ RefAt w' B r wv' cv (if May way p then way ++ [p] else way) cl
set_option maxHeartbeats 4000000 in
theorem rsend_no (h : RefAt w B r wv cv way cl) (p : Pk) (hm : ¬ May way p) :
    Calls Try.prog 21 #[.pointer (some ⟨r, 0, none⟩), .agg #[.int .i64 p.f, .int .i64 p.t, .string p.d]] w (RSentV B r wv cv way cl p w) := by
  obtain ⟨A, cap, rfl, _, _⟩ := h.row.sl.any
  have c0 := h.cc0
  have hg0 := h.rlt
  have hg1 : ¬ r = w.heap.size := by omega
  have hfew := h.few
  have hs : ∀ w', Below w.heap.size w w' → RSentV B r (.slice A way.length cap) cv way cl p w (.returned (.bool false)) w' := fun w' hb =>
    ⟨by rw [decide_eq_false hm], _, RTurn.of_below hb, by rw [if_neg hm]; exact h.below hb⟩
  have HS := Lib.hid hs
  clear h hs
  by_cases h0 : (512 : Int) ≤ (way.length : Int)
  · clear hm
    go_enter Try.func21, Try.ntmps21
    go_wp2_with fail
    go_returns
    exact HS.out _ (by go_grown)
  by_cases h1 : p.f < 0
  · clear hm
    go_enter Try.func21, Try.ntmps21
    go_wp2_with fail
    go_returns
    exact HS.out _ (by go_grown)
  by_cases h2 : 63 < p.f
  · clear hm
    go_enter Try.func21, Try.ntmps21
    go_wp2_with fail
    go_returns
    exact HS.out _ (by go_grown)
  by_cases h3 : p.t < 0
  · clear hm
    go_enter Try.func21, Try.ntmps21
    go_wp2_with fail
    go_returns
    exact HS.out _ (by go_grown)
  by_cases h4 : 63 < p.t
  · clear hm
    go_enter Try.func21, Try.ntmps21
    go_wp2_with fail
    go_returns
    exact HS.out _ (by go_grown)
  by_cases h5 : p.f = p.t
  · have h7 : (p.f == p.t) = true := by simp [h5]
    clear hm h5
    go_enter Try.func21, Try.ntmps21
    go_wp2_with fail
    go_returns
    exact HS.out _ (by go_grown)
  have h7 : (p.f == p.t) = false := by simp [h5]
  have h6 : (2048 : Int) < (p.d.size : Int) := by
    rcases Int.lt_or_le 2048 (p.d.size : Int) with h8 | h8
    · exact h8
    · exact absurd ⟨by omega, ⟨by omega, by omega⟩, ⟨by omega, by omega⟩, h5, by omega⟩ hm
  clear hm h5
  go_enter Try.func21, Try.ntmps21
  go_wp2_with fail
  go_returns
  exact HS.out _ (by go_grown)
set_option maxHeartbeats 4000000 in
theorem rsend_yes (h : RefAt w B r wv cv way cl) (hB : B ≤ w.heap.size) (p : Pk) (hm : May way p) :
    Calls Try.prog 21 #[.pointer (some ⟨r, 0, none⟩), .agg #[.int .i64 p.f, .int .i64 p.t, .string p.d]] w (RSentV B r wv cv way cl p w) := by
  obtain ⟨i0, hi, hz0, hz1, hz2⟩ := info_parts info23
  obtain ⟨A, cap, rfl, _, _⟩ := h.row.sl.any
  have c0 := h.cc0
  have hg0 := h.rlt
  have hg1 : ¬ r = w.heap.size := by omega
  have hlen := hm.1
  have h0 : ¬ (512 : Int) ≤ (way.length : Int) := by omega
  have h1 : ¬ p.f < 0 := by have := hm.2.1; omega
  have h2 : ¬ 63 < p.f := by have := hm.2.1; omega
  have h3 : ¬ p.t < 0 := by have := hm.2.2.1; omega
  have h4 : ¬ 63 < p.t := by have := hm.2.2.1; omega
  have h7 : (p.f == p.t) = false := by simp [hm.2.2.2.1]
  have h6 : ¬ (2048 : Int) < (p.d.size : Int) := by have := hm.2.2.2.2; omega
  have HM := Lib.hid hm
  have HAT := Lib.hid h
  clear h hm
  go_enter Try.func21, Try.ntmps21
  go_wp2_with fail
  go_region_law (refine step_append_sl rfl (.tmp 48) (.tmp 50) 30 rfl 23 i0 (.agg #[.int .i64 0, .int .i64 0, .string ⟨#[]⟩]) 3 32 Try.underlying30 hi hz0 hz1 hz2 rfl (by decide) (v := .slice A way.length cap) (by simp [Act.eval, Act.put]) (HAT.out.row.sl.below (by go_grown)) (some ⟨w.heap.size + 1, 0, none⟩) 1 1 [.int .i64 p.f, .int .i64 p.t, .string p.d] (by simp [Act.eval, Act.put]) (by simp) rfl (row_news3 (heap_new_at _ _ (by first | rfl | (show (World.alloc _ _).heap.size = _; rw [alloc_size]) | simp))) (by intro u hu; simp at hu; rcases hu with rfl | rfl | rfl <;> rfl) (by unfold maxLen; omega) (by omega) (by exact Nat.le_trans hB (show Below w.heap.size w _ by go_grown).size) ?_; intro v4 w4 hsl hgrow hown; obtain ⟨b', off', cap', rfl, _, _⟩ := hsl.shape (by omega); obtain ⟨p0, pf, h10, h11⟩ := HAT.out.putWay (show Below w.heap.size w _ by go_grown) (way' := way ++ [p]) (rw_app hsl) hgrow (fun q hq => (hown q hq).imp id .inl) (by simp; omega); clear hsl hgrow hown)
  all_goals
    have H11 := Lib.hid (And.intro h10 h11)
    clear h10 p0 pf h11
    go_wp2_with fail
    go_returns
    exact ⟨by rw [decide_eq_true HM.out]; rfl, _, H11.out.2, by rw [if_pos HM.out]; exact H11.out.1⟩
theorem rsend_any (h : RefAt w B r wv cv way cl) (hB : B ≤ w.heap.size) (p : Pk) :
    Calls Try.prog 21 #[.pointer (some ⟨r, 0, none⟩), .agg #[.int .i64 p.f, .int .i64 p.t, .string p.d]] w (RSentV B r wv cv way cl p w) := by
  by_cases hm : May way p
  · exact rsend_yes h hB p hm
  · exact rsend_no h p hm

/-! ### next -/
def nextR : List Pk → Int → Option (Pk × List Pk)
  | [], _ => none
  | p :: l, i => if p.t = i then some (p, l) else (nextR l i).map fun x => (x.1, p :: x.2)
theorem nextR_none {i : Int} : ∀ {cl : List Pk}, (∀ j (hj : j < cl.length), cl[j].t ≠ i) → nextR cl i = none
  | [], _ => rfl
  | p :: l, h => by
    unfold nextR
    rw [if_neg (show ¬ p.t = i from h 0 (by simp)), nextR_none fun j hj => h (j + 1) (by simpa using hj)]; rfl
theorem nextR_at {i : Int} : ∀ {cl : List Pk} {k : Nat} (hk : k < cl.length), (∀ j (hj : j < cl.length), j < k → cl[j].t ≠ i) → cl[k].t = i → nextR cl i = some (cl[k], out cl k)
  | [], k, hk, _, _ => absurd hk (Nat.not_lt_zero _)
  | p :: l, 0, _, _, he => by
    unfold nextR
    rw [if_pos (by exact he)]; rfl
  | p :: l, k + 1, hk, h, he => by
    unfold nextR
    rw [if_neg (show ¬ p.t = i from h 0 (by simp) (by omega)), nextR_at (k := k) (by simpa using hk) (fun j hj hjk => h (j + 1) (by simpa using hj) (by omega)) (by simpa using he)]
    rfl
def RNextV (B r : Nat) (wv cv : Value) (way cl : List Pk) (i : Int) (w : World) (e : Ending) (w' : World) : Prop :=
  match nextR cl i with
  | none => e = .returned (.tuple #[.agg #[.int .i64 0, .int .i64 0, .string ⟨#[]⟩], .bool false]) ∧ Below w.heap.size w w'
  | some (p, l) => e = .returned (.tuple #[.agg #[.int .i64 p.f, .int .i64 p.t, .string p.d], .bool true]) ∧ ∃ cv', RTurn r w w' wv wv cv cv' ∧ RefAt w' B r wv cv' way l
set_option maxHeartbeats 4000000 in
theorem rnext_any (h : RefAt w B r wv cv way cl) (hB : B ≤ w.heap.size) (i : Int) : Calls Try.prog 23 #[.pointer (some ⟨r, 0, none⟩), .int .i64 i] w (RNextV B r wv cv way cl i w) := by
  obtain ⟨A, cap, rfl, _, _⟩ := h.crow.sl.any
  have c1 := h.cc1
  have hcf := h.cfew
  have hrl := h.rlt
  have hrl' : ¬ r = w.heap.size := by omega
  have HAT := Lib.hid h
  have HB := Lib.hid hB
  clear h
  go_enter Try.func23, Try.ntmps23
  go_wp2
  go_loop [6] (fun n => ∃ k : Nat, k ≤ cl.length ∧ (∀ j (hj : j < cl.length), j < k → cl[j].t ≠ i) ∧ n = .int .i64 k) (fun n => cl.length - (intOf n).toNat)
  case atStart => exact ⟨0, by omega, fun j _ h => absurd h (Nat.not_lt_zero _), rfl⟩
  case round =>
    obtain ⟨k, hk, hno, rfl⟩ := hrel
    have HN := Lib.hid hno
    clear hno
    by_cases hlt : k < cl.length
    · obtain ⟨b, off, cap2, he, _, _⟩ := HAT.out.crow.sl.shape (by omega)
      cases he
      obtain ⟨d0, d1, d2⟩ := HAT.out.crow.pk hlt
      have hbs : b < w.heap.size := HAT.out.crow.sl.lt b rfl
      have hbs' : ¬ b = w.heap.size := by omega
      by_cases ht : cl[k].t = i
      · have htb : (cl[k].t == i) = true := by simp [ht]
        have HNX := Lib.hid (nextR_at hlt (fun j hj hjk => HN.out j hj hjk) ht)
        clear ht
        generalize cl[k] = p at *
        have hW : Below w.heap.size w ((w.alloc (.cells #[.int .i64 0, .int .i64 0, .string ⟨#[]⟩] 23)).alloc (.cells #[.int .i64 p.f, .int .i64 p.t, .string p.d] 23)) := by go_grown
        have HC := Lib.hid (without_any (some ⟨b, off, none⟩) cap k cl _ (HAT.out.crow.sl.below hW) hlt (by omega))
        have HW := Lib.hid hW
        clear hW
        go_wp2_with fail
        refine HC.out.mono ?_
        rintro e w3 ⟨A3, cap3, rfl, hrow, hb3⟩
        have hs2 : ((w.alloc (.cells #[.int .i64 0, .int .i64 0, .string ⟨#[]⟩] 23)).alloc (.cells #[.int .i64 p.f, .int .i64 p.t, .string p.d] 23)).heap.size = w.heap.size + 2 := by rw [alloc_size, alloc_size]
        have hb : Below w.heap.size w w3 := HW.out.trans (hb3.mono HW.out.size)
        have hlen := out_len hlt
        obtain ⟨q0, qf, hR, hT⟩ := HAT.out.putCame hb (hrow.sl.mono (Nat.le_trans HB.out HW.out.size)) (w0 := w3) ⟨rfl, rfl, rfl, Nat.le_refl _, fun _ _ _ => rfl⟩ (fun q hq => .inr (.inr (Nat.le_trans HW.out.size (hrow.sl.ge q hq)))) (by rw [hlen]; omega)
        have hz3 : w3.heap[w.heap.size]? = some (.cells #[.int .i64 0, .int .i64 0, .string ⟨#[]⟩] 23) := by
          rw [hb3.block _ (by omega), alloc_old _ _ _ (by rw [alloc_size]; omega)]
          exact heap_alloc_new w _
        have hp3 : w3.heap[w.heap.size + 1]? = some (.cells #[.int .i64 p.f, .int .i64 p.t, .string p.d] 23) := by
          rw [hb3.block _ (by omega)]
          exact heap_new_at _ _ (alloc_size _ _)
        obtain ⟨w4, hw4⟩ : ∃ w4, w4 = w3.setCell ⟨r, 1, none⟩ (.slice A3 (out cl k).length cap3) := ⟨_, rfl⟩
        have hz4 : w4.heap[w.heap.size]? = some (.cells #[.int .i64 0, .int .i64 0, .string ⟨#[]⟩] 23) := by rw [hw4]; exact (Below.heap_setCell _ _ _ _ (by simp; omega)).trans hz3
        have hp4 : w4.heap[w.heap.size + 1]? = some (.cells #[.int .i64 p.f, .int .i64 p.t, .string p.d] 23) := by rw [hw4]; exact (Below.heap_setCell _ _ _ _ (by simp; omega)).trans hp3
        rw [← hw4] at hR hT
        have k0 : w4.cell? ⟨w.heap.size + 1, 0, none⟩ = some (.int .i64 p.f) := by rw [row_cell hp4]; rfl
        have k1 : w4.cell? ⟨w.heap.size + 1, 1, none⟩ = some (.int .i64 p.t) := by rw [row_cell hp4]; rfl
        have k2 : w4.cell? ⟨w.heap.size + 1, 2, none⟩ = some (.string p.d) := by rw [row_cell hp4]; rfl
        have z0 : w4.cell? ⟨w.heap.size, 0, none⟩ = some (.int .i64 0) := by rw [row_cell hz4]; rfl
        have z1 : w4.cell? ⟨w.heap.size, 1, none⟩ = some (.int .i64 0) := by rw [row_cell hz4]; rfl
        have z2 : w4.cell? ⟨w.heap.size, 2, none⟩ = some (.string ⟨#[]⟩) := by rw [row_cell hz4]; rfl
        have ff : ∀ o, w4.frozen? ⟨w.heap.size, o, none⟩ = false := row_froz hz4
        have y1 := setCell_heap hz4 0 (.int .i64 p.f)
        have y2 := setCell_heap y1 1 (.int .i64 p.t)
        have y3 := setCell_heap y2 2 (.string p.d)
        have s0 : (w4.setCell ⟨w.heap.size, 0, none⟩ (.int .i64 p.f)).cell? ⟨w.heap.size, 0, none⟩ = some (.int .i64 p.f) := by rw [row_cell y1]; rfl
        have s1 : ((w4.setCell ⟨w.heap.size, 0, none⟩ (.int .i64 p.f)).setCell ⟨w.heap.size, 1, none⟩ (.int .i64 p.t)).cell? ⟨w.heap.size, 1, none⟩ = some (.int .i64 p.t) := by rw [row_cell y2]; rfl
        have s2 : (((w4.setCell ⟨w.heap.size, 0, none⟩ (.int .i64 p.f)).setCell ⟨w.heap.size, 1, none⟩ (.int .i64 p.t)).setCell ⟨w.heap.size, 2, none⟩ (.string p.d)).cell? ⟨w.heap.size, 2, none⟩ = some (.string p.d) := by rw [row_cell y3]; rfl
        have hno : ¬ ROwn r wv (.slice A3 (out cl k).length cap3) w.heap.size := by
          rintro (e | e | e)
          · exact hrl' e.symm
          · have := HAT.out.row.sl.lt _ e; omega
          · have := hrow.sl.ge _ e; omega
        have HF := Lib.hid (And.intro (((hR.far hno 0 (.int .i64 p.f)).far hno 1 (.int .i64 p.t)).far hno 2 (.string p.d)) (((hT.far (Nat.le_refl _) 0 (.int .i64 p.f)).far (Nat.le_refl _) 1 (.int .i64 p.t)).far (Nat.le_refl _) 2 (.string p.d)))
        clear hlen hR hT hno y1 y2 y3 hz3 hp3 hz4 hp4 hb hb3 hrow hs2
        have hw4' := hw4.symm
        clear hw4
        go_wp2_with fail
        (try simp only [Exit.inBlock, Exit.then])
        refine bodyPost_ret (by simp [results, Try.results23, go_sem, s0, s1, s2]; try rfl) rfl ?_
        unfold RNextV
        rw [HNX.out]
        exact ⟨rfl, _, HF.out.2, HF.out.1⟩
      · have htb : (cl[k].t == i) = false := by simp [ht]
        have HTT := Lib.hid ht
        clear ht
        go_wp2_with fail
        go_round
        case rel =>
          refine ⟨k + 1, by omega, fun j hj hjk => ?_, by go_num⟩
          by_cases hjk2 : j = k
          · subst hjk2; exact HTT.out
          · exact HN.out j hj (by omega)
        case measure => simp [intOf]; omega
    · go_wp2_with fail
      go_returns
      unfold RNextV
      rw [nextR_none fun j hj => HN.out j hj (by omega)]
      exact ⟨rfl, by go_grown⟩
end
end Go.Proofs.Ytdffghaledkfeaa
