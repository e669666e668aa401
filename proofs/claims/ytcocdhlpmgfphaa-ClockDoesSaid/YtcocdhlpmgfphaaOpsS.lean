/- clock.Clock at one key type: Touch, Drop. -/
import Derived.Test.YtcocdhlpmgfphaaObjS
namespace Go.Proofs.Ytcocdhlpmgfphaa.S
open Go Go.RowKit Go.Maps Go.WideShapes Go.ChangeMaps Go.WideMaps Go.MapKept

def touch (L : St) (s : K) : St := if s ∈ keysOf L then L.map (fun x => if x.1 = s then (x.1, true) else x) else L ++ [(s, true)]
def drop (L : St) (s : K) : St := L.filter (fun x => decide (x.1 ≠ s))

theorem mem_keys {L : St} {k : K} : k ∈ keysOf L ↔ ∃ b, (k, b) ∈ L := by
  unfold keysOf
  rw [List.mem_map]
  constructor
  · rintro ⟨⟨a, b⟩, h, rfl⟩; exact ⟨b, h⟩
  · rintro ⟨b, h⟩; exact ⟨_, h, rfl⟩
theorem touch_keys_in {L : St} {s : K} (h : s ∈ keysOf L) : keysOf (touch L s) = keysOf L := by
  unfold touch
  rw [if_pos h]
  unfold keysOf
  rw [List.map_map]
  apply List.map_congr_left
  intro x _
  simp only [Function.comp]
  split <;> rfl
theorem touch_keys_out {L : St} {s : K} (h : s ∉ keysOf L) : keysOf (touch L s) = keysOf L ++ [s] := by
  unfold touch
  rw [if_neg h]
  simp [keysOf]
theorem mem_touch {L : St} {s k : K} : (k, true) ∈ touch L s ↔ k = s ∨ (k, true) ∈ L := by
  unfold touch
  split
  · rename_i h
    rw [List.mem_map]
    constructor
    · rintro ⟨⟨a, b⟩, hx, he⟩
      by_cases ha : a = s
      · rw [if_pos ha] at he; simp at he; exact .inl (he ▸ ha)
      · rw [if_neg ha] at he; cases he; exact .inr hx
    · rintro (rfl | hk)
      · obtain ⟨b, hb⟩ := mem_keys.1 h
        exact ⟨(k, b), hb, by simp⟩
      · exact ⟨(k, true), hk, by simp⟩
  · rw [List.mem_append]
    simp
    exact Or.comm
theorem mem_drop {L : St} {s k : K} {b : Bool} : (k, b) ∈ drop L s ↔ k ≠ s ∧ (k, b) ∈ L := by
  unfold drop
  rw [List.mem_filter]
  simp
  exact And.comm
theorem has_put {D : DataW Unit} {w : World} {mb n : Nat} (h : w.ownsMap Try.prog 9 unitElem mb n D) (s k : K) : has (D.put (kl s) (.agg [])) (kl k) = true ↔ k = s ∨ has D (kl k) = true := by
  by_cases hk : k = s
  · subst hk
    simp [has_put_same h.isMap (key_lit k)]
  · rw [has_put_other (fun e => hk (kl_inj e))]
    simp [hk]
theorem has_del {D : DataW Unit} (s k : K) : has (D.del (kl s)) (kl k) = true ↔ k ≠ s ∧ has D (kl k) = true := by
  by_cases hk : k = s
  · subst hk
    simp [has_del_same]
  · rw [has_del_other (fun e => hk (kl_inj e))]
    simp [hk]

/-- the row's value stored -/
structure Put (w1 w2 : World) (B g mb n : Nat) (v' : Value) (D : DataW Unit) (m : Nat) (xs : List Value) : Prop where
  obj : w2.heap[g]? = some (.cells #[v', .map (some mb)] 54)
  row : Sl w2 B 9 1 v' m xs
  map : w2.ownsMap Try.prog 9 unitElem mb n D
  grown : w1.grownBy w2 (some g)
  nm : v'.ownBlock ≠ some mb
  ng : v'.ownBlock ≠ some g
  gm : g ≠ mb
theorem put_row {w1 : World} {B g mb n m : Nat} {v v' : Value} {D : DataW Unit} {xs : List Value} (hobj : w1.heap[g]? = some (.cells #[v, .map (some mb)] 54)) (hm : w1.ownsMap Try.prog 9 unitElem mb n D) (hsl : Sl w1 B 9 1 v' m xs) :
    Put w1 (w1.setCell ⟨g, 0, none⟩ v') B g mb n v' D m xs := by
  have hng := hsl.off hobj (by decide)
  obtain ⟨es, ck, hb, r⟩ := hm
  have hnm := hsl.offMap hb
  have hgm : g ≠ mb := by rintro rfl; rw [hobj] at hb; cases hb
  refine ⟨?_, ?_, ⟨es, ck, (Below.heap_setCell _ _ _ _ (by simpa using hgm.symm)).trans hb, r⟩, ⟨rfl, rfl, rfl, by simp [World.setCell], fun k _ hk => Below.heap_setCell _ _ _ _ (by intro e; exact hk (by simp at e; rw [e]))⟩, hnm, hng, hgm⟩
  · rw [setCell_heap hobj]; rfl
  · exact hsl.of fun k hk => Below.heap_setCell _ _ _ _ (by intro e; simp at e; exact hng (by rw [hk, e]))
theorem put_cells {w1 : World} {g mb : Nat} {v : Value} (hobj : w1.heap[g]? = some (.cells #[v, .map (some mb)] 54)) : w1.cell? ⟨g, 0, none⟩ = some v ∧ w1.frozen? ⟨g, 0, none⟩ = false ∧ w1.cell? ⟨g, 1, none⟩ = some (.map (some mb)) :=
  ⟨by rw [row_cell hobj]; rfl, row_froz hobj 0, by rw [row_cell hobj]; rfl⟩

/-! ### Touch -/
def TouchV (B g mb c : Nat) (v : Value) (L : St) (s : K) (w : World) (e : Ending) (w' : World) : Prop :=
  ∃ v', e = .returned (.tuple #[]) ∧ Turn g mb w w' v v' ∧ At w' B g mb (c + 1) v' (touch L s)

set_option maxHeartbeats 1000000 in
theorem touch_in {w : World} {B g mb c : Nat} {v : Value} {L : St} (h : At w B g mb c v L) (s : K) (hs : kok s) (hc : c + 1 ≤ 1000000) (hin : s ∈ keysOf L) :
    Calls Try.prog 9 #[.pointer (some ⟨g, 0, none⟩), .string s] w (TouchV B g mb c v L s w) := by
  have c1 := h.c1'
  have HM := Lib.hid (made_any g mb w h.c1')
  have HH := Lib.hid (has_any h s true (by simp [hin]))
  obtain ⟨D, n, hown, hn, hD⟩ := h.map
  have hkey := key_of hs
  have HAT := Lib.hid h
  have HD := Lib.hid (And.intro hown hD)
  have HIN := Lib.hid hin
  clear h hD hin
  go_enter Try.func9, Try.ntmps9
  go_wp2_with fail
  refine HM.out.mono ?_
  rintro e w' ⟨rfl, rfl⟩
  go_wp2_with fail
  refine HH.out.mono ?_
  rintro e w' ⟨rfl, rfl⟩
  go_wp2_with (at_mapUpdate; refine wpList_mapUpdate_in _ rfl (.tmp 24) (.tmp 25) (.tmp 26) 52 rfl 9 57 law Try.underlying52 unitElem mb n D rfl hown (by unfold maxLen; omega) _ _ _ rfl rfl hkey (.agg []) [] unitElem_mk ?_)
  intro w1 hown1 hturn1
  have HT := Lib.hid (And.intro hown1 hturn1)
  clear hown1 hturn1 hown
  go_wp2_with fail
  go_returns
  have h := HAT.out
  have hg := HT.out.2.grown
  have hk := touch_keys_in HIN.out
  refine ⟨v, rfl, Turn.of_grown hg (fun k hk => by cases hk; exact .inr (.inl rfl)), ⟨(hg.block g h.glt (fun e => h.gm (by cases e; rfl))).trans h.obj, by rw [hk]; exact h.row.grown hg (.inr h.mv), ⟨_, _, HT.out.1, by omega, fun k => ?_⟩, by rw [hk]; exact h.nodup, by rw [hk]; exact h.ok, h.g0, h.m0, by rw [hk]; have := h.few; omega, hc⟩⟩
  rw [has_put HD.out.1, mem_touch, HD.out.2]

set_option maxHeartbeats 1000000 in
theorem touch_out {w : World} {B g mb c : Nat} {v : Value} {L : St} (h : At w B g mb c v L) (hB : B ≤ w.heap.size) (s : K) (hs : kok s) (hc : c + 1 ≤ 1000000) (hin : s ∉ keysOf L) :
    Calls Try.prog 9 #[.pointer (some ⟨g, 0, none⟩), .string s] w (TouchV B g mb c v L s w) := by
  obtain ⟨i0, hi, hz0, hz1, hz2⟩ := info_parts info9
  have c0 := h.c0'
  have c1 := h.c1'
  have HM := Lib.hid (made_any g mb w h.c1')
  have HH := Lib.hid (has_any h s false (by simp [hin]))
  obtain ⟨D, n, hown, hn, hD⟩ := h.map
  have hkey := key_of hs
  have HAT := Lib.hid h
  have HD := Lib.hid (And.intro hown hD)
  have HIN := Lib.hid hin
  have HS := Lib.hid hs
  have hfew := h.few
  clear h hD hin hown hs
  go_enter Try.func9, Try.ntmps9
  go_wp2_with fail
  refine HM.out.mono ?_
  rintro e w' ⟨rfl, rfl⟩
  go_wp2_with fail
  refine HH.out.mono ?_
  rintro e w' ⟨rfl, rfl⟩
  go_wp2_with (at_builtin; refine wpList_append_sl _ rfl (.tmp 15) (.tmp 17) 22 rfl 9 i0 (.string ⟨#[]⟩) 1 16 Try.underlying22 hi hz0 hz1 hz2 rfl (by decide) rfl (HAT.out.row.below (by go_grown)) (some ⟨w.heap.size, 0, none⟩) 1 1 [.string s] rfl (by simp) rfl (by intro ad had j u hu; cases had; match j, hu with | 0, hu => simp at hu; subst hu; simp [Addr.add]) (by intro u hu; simp at hu; subst hu; rfl) (by unfold maxLen; omega) (by omega) (by simp; omega) ?_)
  intro v' w1 hsl hgrow hown'
  obtain ⟨b', off', cap', rfl, _, _⟩ := hsl.shape (by omega)
  have h := HAT.out
  have hg1 : w1.heap[g]? = some (.cells #[v, .map (some mb)] 54) := (hgrow.block g (by have := h.glt; simp; omega) (fun e => h.gv e.symm)).trans ((alloc_old w _ g h.glt).trans h.obj)
  have hm1 := ownsMap_of HD.out.1 (w' := w1) ((hgrow.block mb (by have := h.mlt; simp; omega) (fun e => h.mv e.symm)).trans (alloc_old w _ mb h.mlt))
  have hput := put_row hg1 hm1 hsl
  have htn : Turn g mb w w1 v (.slice (some ⟨b', off', none⟩) ((keysOf L).length + 1) cap') := by
    refine ⟨hgrow.os, hgrow.tape, hgrow.output, Nat.le_trans (by simp) hgrow.size, fun k hk _ _ hv => (hgrow.block k (by simp; omega) (fun e => hv e.symm)).trans (alloc_old w _ k hk), fun k hk => ?_⟩
    rcases hown' k hk with h1 | h1
    · exact .inl h1
    · exact .inr (by omega)
  obtain ⟨p0, pf, p1⟩ := put_cells hg1
  have hown2 := hput.map
  have HP := Lib.hid (And.intro hput htn)
  clear hsl hgrow hown' hg1 hm1 hput htn h c0 c1
  go_wp2_with (at_mapUpdate; refine wpList_mapUpdate_in _ rfl (.tmp 24) (.tmp 25) (.tmp 26) 52 rfl 9 57 law Try.underlying52 unitElem mb n D rfl hown2 (by unfold maxLen; omega) _ _ _ rfl rfl hkey (.agg []) [] unitElem_mk ?_)
  intro w3 hown3 hturn3
  have HT := Lib.hid (And.intro hown3 hturn3)
  clear hown3 hturn3 hown2 p0 pf p1
  go_wp2_with fail
  go_returns
  have h := HAT.out
  have hp := HP.out.1
  have hg := HT.out.2.grown
  have hk := touch_keys_out HIN.out
  have hlt := heap_lt hp.obj
  refine ⟨_, rfl, ?_, ⟨(hg.block g hlt (fun e => hp.gm (by cases e; rfl))).trans hp.obj, ?_, ⟨_, _, HT.out.1, by omega, fun k => ?_⟩, ?_, ?_, h.g0, h.m0, by rw [hk]; simp; omega, hc⟩⟩
  · exact (HP.out.2.trans (Turn.of_grown hp.grown (fun k hk => by cases hk; exact .inl rfl))).trans (Turn.of_grown hg (fun k hk => by cases hk; exact .inr (.inl rfl)))
  · rw [hk, ← encs_append, List.length_append]
    exact hp.row.grown hg (.inr hp.nm)
  · rw [has_put HD.out.1, mem_touch, HD.out.2]
  · rw [hk, List.nodup_append]
    refine ⟨h.nodup, by simp, fun a ha b hb => ?_⟩
    simp at hb
    rintro rfl
    exact HIN.out (hb ▸ ha)
  · intro k hkm
    rw [hk, List.mem_append] at hkm
    rcases hkm with h1 | h1
    · exact h.ok k h1
    · simp at h1; subst h1; exact HS.out
theorem touch_any {w : World} {B g mb c : Nat} {v : Value} {L : St} (h : At w B g mb c v L) (hB : B ≤ w.heap.size) (s : K) (hs : kok s) (hc : c + 1 ≤ 1000000) :
    Calls Try.prog 9 #[.pointer (some ⟨g, 0, none⟩), .string s] w (TouchV B g mb c v L s w) := by
  by_cases hin : s ∈ keysOf L
  · exact touch_in h s hs hc hin
  · exact touch_out h hB s hs hc hin
end Go.Proofs.Ytcocdhlpmgfphaa.S
