/- net.Net: Twice, Drop, Way, Came, Clear. -/
import Derived.Test.YtdffghaledkfeaaDelP
import Derived.Lib.SliceRun
namespace Go.Proofs.Ytdffghaledkfeaa
open Go Go.RowKit Go.Maps Go.WideShapes Go.ChangeMaps Go.WideMaps Go.MapKept
set_option maxRecDepth 100000
section
variable {w : World} {B g mb c : Nat} {v : Value} {V : Int → Value} {way : List Pk} {came : Int → List Pk}

/-! ### Drop -/
theorem drop_no (h : NetAt w B g mb c v V way came) (i : Int) (hi : ¬ (0 ≤ i ∧ i < way.length)) :
    Calls Try.prog 25 #[.pointer (some ⟨g, 0, none⟩), .int .i64 i] w fun e w' => e = .returned (.bool false) ∧ w = w' := by
  have H1 := Lib.hid (there_no h i hi)
  clear h hi
  go_enter Try.func25, Try.ntmps25
  go_wp2_with fail
  refine H1.out.mono ?_
  rintro e w' ⟨rfl, rfl⟩
  go_wp2_with fail
  go_returns
  exact ⟨rfl, rfl⟩
theorem drop_yes (h : NetAt w B g mb c v V way came) (k : Nat) (hk : k < way.length) :
    Calls Try.prog 25 #[.pointer (some ⟨g, 0, none⟩), .int .i64 k] w fun e w' => ∃ v', e = .returned (.bool true) ∧ Turn g mb w w' v v' V V ∧ NetAt w' B g mb c v' V (out way k) came := by
  obtain ⟨b, off, cap, rfl, _, _⟩ := h.row.sl.shape (by omega)
  have H1 := Lib.hid (there_yes h k hk)
  have H2 := Lib.hid (del_any b off cap k way w h.row hk)
  have c0 := h.cc0
  have hfew := h.few
  have HAT := Lib.hid h
  clear h
  go_enter Try.func25, Try.ntmps25
  go_wp2_with fail
  refine H1.out.mono ?_
  rintro e w' ⟨rfl, rfl⟩
  go_wp2_with fail
  refine H2.out.mono ?_
  rintro e w1 ⟨rfl, hr, hg⟩
  obtain ⟨h1, _, _⟩ := HAT.out.row' hg
  have p0 : w1.cell? ⟨g, 0, none⟩ = some (.slice (some ⟨b, off, none⟩) way.length cap) := by rw [row_cell h1]; rfl
  have pf : w1.frozen? ⟨g, 0, none⟩ = false := row_froz h1 0
  have hp := HAT.out.wayPut (Below.refl _ _) hr hg (fun q hq => .inl hq) (by rw [out_len hk]; omega)
  have HP := Lib.hid hp
  clear hp h1 hr hg
  go_wp2_with fail
  go_returns
  exact ⟨_, rfl, HP.out.2, HP.out.1⟩

/-! ### Twice -/
theorem twice_no (h : NetAt w B g mb c v V way came) (i : Int) (hi : ¬ (0 ≤ i ∧ i < way.length)) :
    Calls Try.prog 27 #[.pointer (some ⟨g, 0, none⟩), .int .i64 i] w fun e w' => e = .returned (.bool false) ∧ w = w' := by
  have H1 := Lib.hid (there_no h i hi)
  clear h hi
  go_enter Try.func27, Try.ntmps27
  go_wp2_with fail
  refine H1.out.mono ?_
  rintro e w' ⟨rfl, rfl⟩
  go_wp2_with fail
  go_returns
  exact ⟨rfl, rfl⟩
theorem send_any (h : NetAt w B g mb c v V way came) (hB : B ≤ w.heap.size) (p : Pk) :
    Calls Try.prog 9 #[.pointer (some ⟨g, 0, none⟩), .agg #[.int .i64 p.f, .int .i64 p.t, .string p.d]] w (SentV B g mb c v V way came p w) := by
  by_cases hm : May way p
  · exact send_yes h hB p hm
  · exact send_no h p hm
theorem twice_yes (h : NetAt w B g mb c v V way came) (hB : B ≤ w.heap.size) (k : Nat) (hk : k < way.length) :
    Calls Try.prog 27 #[.pointer (some ⟨g, 0, none⟩), .int .i64 k] w (SentV B g mb c v V way came way[k] w) := by
  obtain ⟨b, off, cap, rfl, _, _⟩ := h.row.sl.shape (by omega)
  have H1 := Lib.hid (there_yes h k hk)
  have H2 := Lib.hid (send_any h hB way[k])
  have c0 := h.cc0
  obtain ⟨d0, d1, d2⟩ := h.row.pk hk
  have hfew := h.few
  have HAT := Lib.hid h
  clear h
  generalize hp : way[k] = p at *
  have HP := Lib.hid hp
  clear hp
  go_enter Try.func27, Try.ntmps27
  go_wp2_with fail
  refine H1.out.mono ?_
  rintro e w' ⟨rfl, rfl⟩
  go_wp2_with fail
  refine H2.out.mono ?_
  rintro e w1 ⟨v', rfl, hT, hN⟩
  have HX := Lib.hid (And.intro hT hN)
  clear hT hN
  go_wp2_with fail
  go_returns
  exact ⟨v', rfl, HX.out.1, HX.out.2⟩

/-! ### Clone -/
theorem clone_nil (w : World) : Calls Try.prog 26 #[.slice none 0 0] w fun e w' => e = .returned (.slice none 0 0) ∧ w = w' := by
  have heq := Lib.run_eql_slice_nil (P := Try.prog) w 30 23 none 0 0 0 0 Try.underlying30
  go_enter Try.func26, Try.ntmps26
  go_wp2
  go_ret
  exact ⟨rfl, rfl⟩
def CloneV (L : List Pk) (w : World) (e : Ending) (w' : World) : Prop := ∃ A cap, e = .returned (.slice A L.length cap) ∧ Rw w' w.heap.size (.slice A L.length cap) L ∧ Below w.heap.size w w'
theorem clone_some {B : Nat} (b off cap : Nat) (L : List Pk) (w : World) (h : Rw w B (.slice (some ⟨b, off, none⟩) L.length cap) L) (hfew : L.length ≤ 1000000) :
    Calls Try.prog 26 #[.slice (some ⟨b, off, none⟩) L.length cap] w (CloneV L w) := by
  obtain ⟨i0, hi, hz0, hz1, hz2⟩ := info_parts info23
  have hb2 : Below w.heap.size w (w.alloc (.cells #[] 23)) := by go_grown
  have hsrc := h.sl.below hb2
  have hs : ∀ j u, (cells3 L)[j]? = some u → (w.alloc (.cells #[] 23)).cell? ((⟨b, off, none⟩ : Addr).add j) = some u := by
    intro j u hu
    rw [addr_add]
    exact hsrc.cell hu
  have HS := Lib.hid hs
  have HD := Lib.hid (Sl.made w (B := w.heap.size) 23 3 0 #[] (Nat.le_refl _) (Nat.zero_le _) (by simp))
  have heq := Lib.run_eql_slice_nil (P := Try.prog) w 30 23 (some ⟨b, off, none⟩) L.length cap 0 0 Try.underlying30
  clear h hb2 hsrc hs
  go_enter Try.func26, Try.ntmps26
  go_wp2_with (at_builtin; refine wpList_append_sl _ rfl (.tmp 5) (.tmp 6) 30 rfl 23 i0 (.agg #[.int .i64 0, .int .i64 0, .string ⟨#[]⟩]) 3 32 Try.underlying30 hi hz0 hz1 hz2 rfl (by decide) rfl HD.out (some ⟨b, off, none⟩) L.length cap (cells3 L) rfl (by simp) (cells3_len L) (by intro ad had; cases had; exact HS.out) (cells3_one L) (by unfold maxLen; omega) (by omega) (by simp) ?_)
  intro v' w1 hsl hgrow hown
  have HX := Lib.hid (And.intro hsl hgrow)
  clear hsl hgrow hown
  go_wp2_with fail
  go_ret
  have hx := HX.out.1
  obtain ⟨A', cap', rfl, _, _⟩ := hx.any
  refine ⟨A', cap', rfl, hx, ?_⟩
  exact Below.grown (a := w) (w := w.alloc (.cells #[] 23)) (by go_grown) HX.out.2 (by simp) (fun q hq => by cases hq; exact Nat.le_refl _)
theorem clone_any {B : Nat} {v : Value} {L : List Pk} {w : World} (h : Rw w B v L) (hfew : L.length ≤ 1000000) : Calls Try.prog 26 #[v] w (CloneV L w) := by
  rcases h.2 with ⟨rfl, h0⟩ | ⟨b, off, cap, cur, rfl, _⟩
  · refine (clone_nil w).mono ?_
    rintro e w' ⟨rfl, rfl⟩
    have := List.length_eq_zero_iff.1 h0
    subst this
    exact ⟨none, 0, rfl, Sl.nil _ _ _ _, Below.refl _ _⟩
  · exact clone_some b off cap L w h hfew

/-! ### Way, Came -/
theorem way_any (h : NetAt w B g mb c v V way came) : Calls Try.prog 12 #[.pointer (some ⟨g, 0, none⟩)] w (CloneV way w) := by
  have H := Lib.hid (clone_any h.row (by have := h.few; omega))
  obtain ⟨A, cap, rfl, _, _⟩ := h.row.any
  have c0 := h.cc0
  clear h
  go_enter Try.func12, Try.ntmps12
  go_wp2_with fail
  refine H.out.mono ?_
  rintro e w1 ⟨A', cap', rfl, hT⟩
  have HX := Lib.hid hT
  clear hT
  go_wp2_with fail
  go_returns
  exact ⟨A', cap', rfl, HX.out⟩
theorem way_nil (w : World) : Calls Try.prog 12 #[.pointer none] w fun e w' => e = .returned (.slice none 0 0) ∧ w = w' := by
  go_enter Try.func12, Try.ntmps12
  go_wp2
  go_returns
  exact ⟨rfl, rfl⟩
theorem came_any (h : NetAt w B g mb c v V way came) {k : Int} (hk : kok k) : Calls Try.prog 18 #[.pointer (some ⟨g, 0, none⟩), .int .i64 k] w (CloneV (came k) w) := by
  have H := Lib.hid (clone_any (h.rows k) (by have := h.cfew k; omega))
  have HL := h.map.look hk
  obtain ⟨A, cap, hV, _, _⟩ := (h.rows k).sl.any
  rw [hV] at HL H
  have c1 := h.cc1
  clear h
  go_enter Try.func18, Try.ntmps18
  go_wp2_with fail
  refine H.out.mono ?_
  rintro e w1 ⟨A', cap', rfl, hT⟩
  have HX := Lib.hid hT
  clear hT
  go_wp2_with fail
  go_returns
  exact ⟨A', cap', rfl, HX.out⟩
theorem came_nil (k : Int) (w : World) : Calls Try.prog 18 #[.pointer none, .int .i64 k] w fun e w' => e = .returned (.slice none 0 0) ∧ w = w' := by
  go_enter Try.func18, Try.ntmps18
  go_wp2
  go_returns
  exact ⟨rfl, rfl⟩

/-! ### Clear -/
theorem clear_none (h : NetAt w B g mb c v V way came) {k : Int} (hk : kok k) (h0 : (came k).length = 0) : Calls Try.prog 13 #[.pointer (some ⟨g, 0, none⟩), .int .i64 k] w fun e w' => e = .returned (.int .i64 0) ∧ w = w' := by
  have HL := h.map.look hk
  obtain ⟨A, cap, hV, _, _⟩ := (h.rows k).sl.any
  rw [hV, h0] at HL
  have c1 := h.cc1
  clear h
  go_enter Try.func13, Try.ntmps13
  go_wp2_with fail
  go_returns
  exact ⟨rfl, rfl⟩
/-- a map's slot put anew, all else kept -/
theorem NetAt.mapPut {w0 w1 : World} (h : NetAt w B g mb c v V way came) {k : Int} {u : Value} {l : List Pk} (hmap : MapAt w1 mb (c + 1) (upd V k u)) (hg : w0.grownBy w1 (some mb))
    (hb : ∀ q, q < w.heap.size → ¬ V k = .slice none 0 0 ∧ (V k).ownBlock = some q ∨ w0.heap[q]? = w.heap[q]?) (hs : w.heap.size ≤ w0.heap.size) (ho : w0.os = w.os) (ht : w0.tape = w.tape) (hou : w0.output = w.output)
    (hr : Rw w1 B u l) (hu : ∀ q, u.ownBlock = some q → (V k).ownBlock = some q ∨ w.heap.size ≤ q) (hl : l.length ≤ 64) (hc : c + 1 ≤ 1000000) :
    NetAt w1 B g mb (c + 1) v (upd V k u) way (upd came k l) ∧ Turn g mb w w1 v v V (upd V k u) := by
  have hkeep : ∀ q, q < w.heap.size → q ≠ mb → (V k).ownBlock ≠ some q → w1.heap[q]? = w.heap[q]? := by
    intro q hq hm hv
    rcases hb q hq with h1 | h1
    · exact absurd h1.2 hv
    · exact (hg.block q (by omega) (by simpa using hm)).trans h1
  have hrow : ∀ j, j ≠ k → ∀ q, (V j).ownBlock = some q → w1.heap[q]? = w.heap[q]? := fun j hj q hq =>
    hkeep q ((h.rows j).sl.lt q hq) (fun e => h.mV j (by rw [hq, e])) (fun e => h.dd j k hj q hq e)
  refine ⟨⟨?_, ?_, hmap, fun j => ?_, fun j => ?_, fun i j hij => ?_, h.g0, h.m0, h.few, fun j => ?_, hc⟩, ⟨?_, ?_, ?_, ?_, ?_, ?_⟩⟩
  · rw [hkeep g h.glt h.gm (h.gV k)]; exact h.obj
  · exact h.row.sl.of fun q hq => hkeep q (h.row.sl.lt q hq) (fun e => h.mv (by rw [hq, e])) (fun e => h.dv k q hq e)
  · by_cases hj : j = k
    · subst hj; rw [upd_same, upd_same]; exact hr
    · rw [upd_other _ _ hj, upd_other _ _ hj]; exact (h.rows j).sl.of (hrow j hj)
  · by_cases hj : j = k
    · subst hj; rw [upd_same]
      intro q hq hq'
      rcases hu q hq' with h1 | h1
      · exact h.dv j q hq h1
      · have := h.row.sl.lt q hq; omega
    · rw [upd_other _ _ hj]; exact h.dv j
  · by_cases hi : i = k
    · subst hi
      rw [upd_same, upd_other _ _ (fun e => hij e.symm)]
      intro q hq hq'
      rcases hu q hq with h1 | h1
      · exact h.dd i j hij q h1 hq'
      · have := (h.rows j).sl.lt q hq'; omega
    · rw [upd_other _ _ hi]
      by_cases hj : j = k
      · subst hj; rw [upd_same]
        intro q hq hq'
        rcases hu q hq' with h1 | h1
        · exact h.dd i j hij q hq h1
        · have := (h.rows i).sl.lt q hq; omega
      · rw [upd_other _ _ hj]; exact h.dd i j hij
  · by_cases hj : j = k
    · subst hj; rw [upd_same]; exact hl
    · rw [upd_other _ _ hj]; exact h.cfew j
  · exact hg.os.trans ho
  · exact hg.tape.trans ht
  · exact hg.output.trans hou
  · exact Nat.le_trans hs hg.size
  · intro q hq hn
    exact hkeep q hq (fun e => hn (.inr (.inl e))) (fun e => hn (.inr (.inr (.inr ⟨k, e⟩))))
  · rintro q (hq | hq | hq | ⟨j, hq⟩)
    · exact .inl (.inl hq)
    · exact .inl (.inr (.inl hq))
    · exact .inl (.inr (.inr (.inl hq)))
    · by_cases hj : j = k
      · subst hj; rw [upd_same] at hq
        exact (hu q hq).imp (fun h => .inr (.inr (.inr ⟨_, h⟩))) id
      · rw [upd_other _ _ hj] at hq
        exact .inl (.inr (.inr (.inr ⟨j, hq⟩)))
theorem clear_some (h : NetAt w B g mb c v V way came) {k : Int} (hk : kok k) (h0 : 0 < (came k).length) (hc : c + 1 ≤ 1000000) : Calls Try.prog 13 #[.pointer (some ⟨g, 0, none⟩), .int .i64 k] w fun e w' =>
    e = .returned (.int .i64 (came k).length) ∧ Turn g mb w w' v v V (upd V k nilS) ∧ NetAt w' B g mb (c + 1) v (upd V k nilS) way (upd came k []) := by
  have HL := h.map.look hk
  obtain ⟨A, cap, hV, _, _⟩ := (h.rows k).sl.any
  rw [hV] at HL
  have c1 := h.cc1
  obtain ⟨w1, hrun, hmap, hgr⟩ := h.map.put hk (by have := h.c0; unfold maxLen; omega) nilS
  have hrun : (Instr.mapUpdate 49 (.map (some mb)) (.int .i64 k) (.slice none 0 0)).run Try.prog w = .ok () w1 := hrun
  have hfin := h.mapPut hmap hgr (fun q _ => .inr rfl) (Nat.le_refl _) rfl rfl rfl (l := []) (Sl.nil _ _ _ _) (fun q hq => by cases hq) (by simp) hc
  have HF := Lib.hid hfin
  have hpos : (0 : Int) < ((came k).length : Int) := by omega
  clear h hmap hgr hfin
  go_enter Try.func13, Try.ntmps13
  go_wp2_with fail
  go_returns
  exact ⟨rfl, HF.out.2, HF.out.1⟩
end
end Go.Proofs.Ytdffghaledkfeaa
