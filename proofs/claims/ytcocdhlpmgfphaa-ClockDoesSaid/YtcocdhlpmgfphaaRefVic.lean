/- posthouseref15: Victim. -/
import Derived.Test.YtcocdhlpmgfphaaRefOps
import Derived.Deep.LoopGhost
import Derived.Deep.RegionLaw
namespace Go.Proofs.Ytcocdhlpmgfphaa
open Go Go.RowKit
open S

theorem sl_empty {W : World} {B S : Nat} (hB : B ≤ S) (h : W.heap[S]? = some (.cells #[] 68)) : Sl W B 68 2 (.slice (some ⟨S, 0, none⟩) 0 0) 0 [] :=
  ⟨rfl, .inr ⟨S, 0, 0, #[], rfl, hB, h, Nat.le_refl _, Nat.zero_le _, by simp, by simp⟩⟩
def kf (k : K) : Obj := .cells #[.string k, .bool false] 68
theorem kf_cells {W : World} {S : Nat} {k : K} (h : W.heap[S]? = some (kf k)) : ∀ ad, some (⟨S, 0, none⟩ : Addr) = some ad → ∀ j u, [Value.string k, Value.bool false][j]? = some u → W.cell? (ad.add j) = some u := by
  intro ad had j u hu
  cases had
  rw [addr_add, row_cell h]
  match j, hu with
  | 0, hu => simpa using hu
  | 1, hu => simpa using hu
theorem kf_one (k : K) : ∀ u ∈ [Value.string k, Value.bool false], u.oneCell' = true := by
  intro u hu; simp at hu; rcases hu with rfl | rfl <;> rfl
/-- the three worlds in which the first append comes up -/
structure W3 (k : K) (wr W : World) (B S b off cap n : Nat) (A : Option Addr) (xs : List Value) : Prop where
  emp : Sl W B 68 2 (.slice (some ⟨S, 0, none⟩) 0 0) 0 []
  src : Sl W B 68 2 (.slice A n (cap - 1)) n xs
  ext : Below wr.heap.size wr W
  ge : wr.heap.size < S
  var : W.heap[wr.heap.size]? = some (kf k)
theorem W3.of {k : K} {wr W : World} {B S b off cap n : Nat} {A : Option Addr} {xs : List Value} (hB : B ≤ wr.heap.size) (hsrc : Sl wr B 68 2 (.slice A n (cap - 1)) n xs) (hS : wr.heap.size < S) (h : W.heap[S]? = some (.cells #[] 68)) (hb : Below wr.heap.size wr W) (hv : Below (wr.heap.size + 1) (wr.alloc (kf k)) W) :
    W3 k wr W B S b off cap n A xs := ⟨sl_empty (by omega) h, hsrc.below hb, hb, hS, (hv.block _ (by omega)).trans (heap_alloc_new wr (kf k))⟩
theorem W3.vars {k : K} {wr W w1 : World} {B S b off cap n : Nat} {A : Option Addr} {xs : List Value} (h : W3 k wr W B S b off cap n A xs) (hg : W.grownBy w1 (some S)) : w1.cell? ⟨wr.heap.size, 0, none⟩ = some (.string k) ∧ w1.cell? ⟨wr.heap.size, 1, none⟩ = some (.bool false) := by
  have h1 := h.ge
  have h2 := (hg.block wr.heap.size (heap_lt h.var) (by intro e; simp at e; omega)).trans h.var
  exact ⟨by rw [row_cell h2]; rfl, by rw [row_cell h2]; rfl⟩

theorem vic_round {w wr W w1 W' w2 : World} {S b off cap : Nat} {A : Option Addr} {r : St} {k : K} {v1 v2 : Value} (hX : Below w.heap.size w wr) (h3 : W3 k wr W w.heap.size S b off cap r.length A (cells2 r)) (hgrow1 : W.grownBy w1 (some S))
    (hsl1 : Sl w1 w.heap.size 68 2 v1 (0 + r.length) ([] ++ cells2 r)) (hb' : Below w1.heap.size w1 W') (hsl2 : Sl w2 w.heap.size 68 2 v2 (0 + r.length + 1) ([] ++ cells2 r ++ [.string k, .bool false])) (hgrow2 : W'.grownBy w2 v1.ownBlock) :
    Rf w2 w.heap.size v2 (r ++ [(k, false)]) ∧ Below w.heap.size w w2 := by
  refine ⟨?_, ?_⟩
  · show Sl _ _ _ _ _ _ _
    have e1 : cells2 [(k, false)] = [.string k, .bool false] := rfl
    rw [List.length_append, List.length_singleton, cells2_append, e1]
    simpa using hsl2
  · have h1 := hX.trans (h3.ext.mono hX.size)
    have hS := h3.ge
    have hs := hX.size
    have h2 : Below w.heap.size w w1 := h1.grown hgrow1 h1.size (fun q hq => by cases hq; omega)
    have h4 := h2.trans (hb'.mono h2.size)
    exact h4.grown hgrow2 h4.size hsl1.ge

def RVicV (L : St) (w : World) (e : Ending) (w' : World) : Prop := ∃ k r v', vic L = (k, false) :: r ∧ e = .returned (.tuple #[v', .string k]) ∧ Rf w' w.heap.size v' (vic L) ∧ Below w.heap.size w w'

set_option maxRecDepth 100000 in
set_option maxHeartbeats 4000000 in
theorem rvictim_any {B : Nat} (A : Option Addr) (cap : Nat) (L : St) (w : World) (h : Rf w B (.slice A L.length cap) L) (hfew : L.length ≤ 1000000) (hL : L ≠ []) :
    Calls Try.prog 25 #[.slice A L.length cap] w (RVicV L w) := by
  obtain ⟨i0, hi, hz0, hz1, hz2⟩ := info_parts info68
  have hne := (show Sl _ _ _ _ _ _ _ from h).below (w' := w.alloc (.cells #[] 68)) (by go_grown)
  have HS := Lib.hid hne.news
  have HD := Lib.hid (Sl.made w (B := w.heap.size) 68 2 0 #[] (Nat.le_refl _) (Nat.zero_le _) (by simp))
  clear h hne
  go_enter Try.func25, Try.ntmps25
  go_wp2_with (at_builtin; refine wpList_append_sl _ rfl (.tmp 6) (.tmp 7) 43 rfl 68 i0 (.agg #[.string ⟨#[]⟩, .bool false]) 2 24 Try.underlying43 hi hz0 hz1 hz2 rfl (by decide) rfl HD.out A L.length cap (cells2 L) rfl HS.out.1 (cells2_len L) HS.out.2 (cells2_one L) (by unfold maxLen; omega) (by omega) (by simp) ?_)
  intro v1 w1 hsl hgrow hown
  have hc := cop_of hsl hgrow
  have HC := Lib.hid hc
  clear hsl hgrow hown hc
  go_wp2_with fail
  go_loopg [4] (marks L) (fun q v wr => ∃ L' : St, L' ≠ [] ∧ marks L' ≤ q ∧ vic L' = vic L ∧ L'.length ≤ 1000000 ∧ Rf wr w.heap.size v L' ∧ Below w.heap.size w wr)
  case atStart => exact ⟨L, hL, Nat.le_refl _, rfl, hfew, HC.out.row, HC.out.bl⟩
  case round =>
    obtain ⟨L', hL', hmk, hvic, hlim, hrow, hbl⟩ := hrel
    match L', hL' with
    | (k, m) :: r, _ =>
      have hrow : Sl wr w.heap.size 68 2 _ (r.length + 1) (.string k :: .bool m :: cells2 r) := hrow
      obtain ⟨b, off, cap1, rfl, hcap, hcm⟩ := hrow.shape (by omega)
      have d0 : wr.cell? ⟨b, off, none⟩ = some (.string k) := hrow.cell (j := 0) rfl
      have d1 : wr.cell? ⟨b, off + 1, none⟩ = some (.bool m) := hrow.cell (j := 1) rfl
      have HX := Lib.hid (And.intro hrow (And.intro hbl (And.intro hvic hmk)))
      have hlim' : r.length + 1 ≤ 1000000 := by simpa using hlim
      clear hrow hbl hvic hmk hlim
      cases m with
      | false =>
        go_wp2_with fail
        go_region
        all_goals (try go_wp2)
        all_goals go_ret2
        all_goals
          have hv := HX.out.2.2.1
          rw [vic_stop] at hv
          refine ⟨k, r, _, hv.symm, rfl, ?_, ?_⟩
          · rw [← hv]
            exact (show Sl _ _ _ _ _ _ _ from HX.out.1).below (by go_grown)
          · exact HX.out.2.1.trans ((show Below wr.heap.size wr _ by go_grown).mono HX.out.2.1.size)
      | true =>
        obtain ⟨A', hA, hAb⟩ : ∃ A' : Addr, (if cap1 = 1 then some (⟨b, off, none⟩ : Addr) else some ⟨b, off + 2, none⟩) = some A' ∧ A'.block = b := by
          by_cases h1 : cap1 = 1
          · exact ⟨_, if_pos h1, rfl⟩
          · exact ⟨_, if_neg h1, rfl⟩
        have hsrc := (HX.out.1).tail
        rw [hA] at hsrc
        have hBr := HX.out.2.1.size
        have wA : W3 k wr ((((wr.alloc (kf k)).drew).alloc (.cells #[] 68)).alloc (kf k)) w.heap.size (wr.heap.size + 1) b off cap1 r.length (some A') (cells2 r) := by
          refine W3.of hBr hsrc (by omega) ?_ (by unfold kf; go_grown) (by unfold kf; go_grown)
          rw [alloc_old _ _ _ (by rw [alloc_size]; show _ < (wr.alloc (kf k)).heap.size + 1; rw [alloc_size]; omega)]
          have := heap_alloc_new (wr.alloc (kf k)).drew (.cells #[] 68)
          rw [show (wr.alloc (kf k)).drew.heap.size = wr.heap.size + 1 from alloc_size _ _] at this
          exact this
        have wB : W3 k wr ((((wr.alloc (kf k)).drew).alloc (kf k)).alloc (.cells #[] 68)) w.heap.size (wr.heap.size + 2) b off cap1 r.length (some A') (cells2 r) := by
          refine W3.of hBr hsrc (by omega) ?_ (by unfold kf; go_grown) (by unfold kf; go_grown)
          have := heap_alloc_new ((wr.alloc (kf k)).drew.alloc (kf k)) (.cells #[] 68)
          rw [alloc_size, show (wr.alloc (kf k)).drew.heap.size = wr.heap.size + 1 from alloc_size _ _] at this
          exact this
        have wC : W3 k wr (((wr.alloc (kf k)).drew).alloc (.cells #[] 68)) w.heap.size (wr.heap.size + 1) b off cap1 r.length (some A') (cells2 r) := by
          refine W3.of hBr hsrc (by omega) ?_ (by unfold kf; go_grown) (by unfold kf; go_grown)
          have := heap_alloc_new (wr.alloc (kf k)).drew (.cells #[] 68)
          rw [show (wr.alloc (kf k)).drew.heap.size = wr.heap.size + 1 from alloc_size _ _] at this
          exact this
        have kA : ((((wr.alloc (kf k)).drew).alloc (.cells #[] 68)).alloc (kf k)).heap[wr.heap.size + 2]? = some (kf k) := by
          have := heap_alloc_new ((wr.alloc (kf k)).drew.alloc (.cells #[] 68)) (kf k)
          rw [alloc_size, show (wr.alloc (kf k)).drew.heap.size = wr.heap.size + 1 from alloc_size _ _] at this
          exact this
        have kB : ((((wr.alloc (kf k)).drew).alloc (kf k)).alloc (.cells #[] 68)).heap[wr.heap.size + 1]? = some (kf k) := by
          rw [alloc_old _ _ _ (by rw [alloc_size]; show _ < (wr.alloc (kf k)).heap.size + 1; rw [alloc_size]; omega)]
          have := heap_alloc_new (wr.alloc (kf k)).drew (kf k)
          rw [show (wr.alloc (kf k)).drew.heap.size = wr.heap.size + 1 from alloc_size _ _] at this
          exact this
        have sA : ((((wr.alloc (kf k)).drew).alloc (.cells #[] 68)).alloc (kf k)).heap.size = wr.heap.size + 3 := by
          rw [alloc_size, alloc_size]; show (wr.alloc (kf k)).heap.size + 1 + 1 = _; rw [alloc_size]
        have sB : ((((wr.alloc (kf k)).drew).alloc (kf k)).alloc (.cells #[] 68)).heap.size = wr.heap.size + 3 := by
          rw [alloc_size, alloc_size]; show (wr.alloc (kf k)).heap.size + 1 + 1 = _; rw [alloc_size]
        have HA := Lib.hid wA
        have HB := Lib.hid wB
        have HC3 := Lib.hid wC
        have KA := Lib.hid (And.intro kA sA)
        have KB := Lib.hid (And.intro kB sB)
        clear wA wB wC hsrc hAb kA kB sA sB
        have h11 : (1 : Int) ≤ (r.length : Int) + 1 := by omega
        have h12 : 1 ≤ cap1 := by omega
        go_wp2_with fail
        go_region_law (first
          | (refine step_append_sl rfl (.tmp 18) (.tmp 20) 43 rfl 68 i0 (.agg #[.string ⟨#[]⟩, .bool false]) 2 24 Try.underlying43 hi hz0 hz1 hz2 rfl (by decide) (v := .slice (some ⟨wr.heap.size + 1, 0, none⟩) 0 0) (by simp [Act.eval, Act.put]) HA.out.emp (some A') r.length (cap1 - 1) (cells2 r) (by simp [Act.eval, Act.put]) (by simp) (cells2_len r) HA.out.src.news.2 (cells2_one r) (by unfold maxLen; omega) (by omega) (by have := HA.out.ext.size; have := HX.out.2.1.size; exact Nat.le_trans this ‹_›) ?_; intro v1 w1 hsl1 hgrow1 hown1; obtain ⟨l0, l1⟩ := HA.out.vars hgrow1)
          | (refine step_append_sl rfl (.tmp 18) (.tmp 20) 43 rfl 68 i0 (.agg #[.string ⟨#[]⟩, .bool false]) 2 24 Try.underlying43 hi hz0 hz1 hz2 rfl (by decide) (v := .slice (some ⟨wr.heap.size + 2, 0, none⟩) 0 0) (by simp [Act.eval, Act.put]) HB.out.emp (some A') r.length (cap1 - 1) (cells2 r) (by simp [Act.eval, Act.put]) (by simp) (cells2_len r) HB.out.src.news.2 (cells2_one r) (by unfold maxLen; omega) (by omega) (by have := HB.out.ext.size; have := HX.out.2.1.size; exact Nat.le_trans this ‹_›) ?_; intro v1 w1 hsl1 hgrow1 hown1; obtain ⟨l0, l1⟩ := HB.out.vars hgrow1)
          | (refine step_append_sl rfl (.tmp 18) (.tmp 20) 43 rfl 68 i0 (.agg #[.string ⟨#[]⟩, .bool false]) 2 24 Try.underlying43 hi hz0 hz1 hz2 rfl (by decide) (v := .slice (some ⟨wr.heap.size + 1, 0, none⟩) 0 0) (by simp [Act.eval, Act.put]) HC3.out.emp (some A') r.length (cap1 - 1) (cells2 r) (by simp [Act.eval, Act.put]) (by simp) (cells2_len r) HC3.out.src.news.2 (cells2_one r) (by unfold maxLen; omega) (by omega) (by have := HC3.out.ext.size; have := HX.out.2.1.size; exact Nat.le_trans this ‹_›) ?_; intro v1 w1 hsl1 hgrow1 hown1; obtain ⟨l0, l1⟩ := HC3.out.vars hgrow1)
          | (refine step_append_sl rfl (.tmp 21) (.tmp 23) 43 rfl 68 i0 (.agg #[.string ⟨#[]⟩, .bool false]) 2 24 Try.underlying43 hi hz0 hz1 hz2 rfl (by decide) (by simp [Act.eval, Act.put]) hsl1 (some ⟨wr.heap.size + 1 + 1, 0, none⟩) 1 1 [.string k, .bool false] (by simp [Act.eval, Act.put]) (by simp) rfl (kf_cells ((hgrow1.block _ (heap_lt KA.out.1) (by intro e; simp [Value.ownBlock] at e)).trans KA.out.1)) (kf_one k) (by unfold maxLen; omega) (by omega) (by exact Nat.le_trans HX.out.2.1.size (Nat.le_trans HA.out.ext.size hgrow1.size)) ?_; intro v2 w2 hsl2 hgrow2 hown2; have hfin := vic_round HX.out.2.1 HA.out hgrow1 hsl1 (Below.refl _ _) hsl2 hgrow2; clear hsl1 hgrow1 hown1 hsl2 hgrow2 hown2 l0 l1)
          | (refine step_append_sl rfl (.tmp 21) (.tmp 23) 43 rfl 68 i0 (.agg #[.string ⟨#[]⟩, .bool false]) 2 24 Try.underlying43 hi hz0 hz1 hz2 rfl (by decide) (by simp [Act.eval, Act.put]) hsl1 (some ⟨wr.heap.size + 1, 0, none⟩) 1 1 [.string k, .bool false] (by simp [Act.eval, Act.put]) (by simp) rfl (kf_cells ((hgrow1.block _ (heap_lt KB.out.1) (by intro e; simp [Value.ownBlock] at e)).trans KB.out.1)) (kf_one k) (by unfold maxLen; omega) (by omega) (by exact Nat.le_trans HX.out.2.1.size (Nat.le_trans HB.out.ext.size hgrow1.size)) ?_; intro v2 w2 hsl2 hgrow2 hown2; have hfin := vic_round HX.out.2.1 HB.out hgrow1 hsl1 (Below.refl _ _) hsl2 hgrow2; clear hsl1 hgrow1 hown1 hsl2 hgrow2 hown2 l0 l1)
          | (refine step_append_sl rfl (.tmp 21) (.tmp 23) 43 rfl 68 i0 (.agg #[.string ⟨#[]⟩, .bool false]) 2 24 Try.underlying43 hi hz0 hz1 hz2 rfl (by decide) (by simp [Act.eval, Act.put]) (hsl1.below (w' := w1.alloc (kf k)) (by unfold kf; go_grown)) (some ⟨w1.heap.size, 0, none⟩) 1 1 [.string k, .bool false] (by simp [Act.eval, Act.put]) (by simp) rfl (kf_cells (heap_alloc_new w1 (kf k))) (kf_one k) (by unfold maxLen; omega) (by omega) (by rw [show (w1.alloc (.cells #[.string k, .bool false] 68)).heap.size = w1.heap.size + 1 from alloc_size _ _]; have h1 := Nat.le_trans HX.out.2.1.size (Nat.le_trans HC3.out.ext.size hgrow1.size); omega) ?_; intro v2 w2 hsl2 hgrow2 hown2; have hfin := vic_round HX.out.2.1 HC3.out hgrow1 hsl1 (by go_grown) hsl2 hgrow2; clear hsl1 hgrow1 hown1 hsl2 hgrow2 hown2 l0 l1))
        all_goals
          have HF := Lib.hid hfin
          clear hfin
          go_wp2_with fail
          go_roundg (gk - 1)
          case measure =>
            have h1 := HX.out.2.2.2
            have h2 : marks ((k, true) :: r) = marks r + 1 := by simp [marks]
            omega
          case rel =>
            have h1 := HX.out.2.2.2
            have h2 : marks ((k, true) :: r) = marks r + 1 := by simp [marks]
            have h3 : marks (r ++ [(k, false)]) = marks r := by simp [marks, List.countP_append]
            exact ⟨r ++ [(k, false)], by simp, by omega, by rw [← vic_step]; exact HX.out.2.2.1, by rw [List.length_append]; simp; omega, HF.out.1, HF.out.2⟩
end Go.Proofs.Ytcocdhlpmgfphaa
