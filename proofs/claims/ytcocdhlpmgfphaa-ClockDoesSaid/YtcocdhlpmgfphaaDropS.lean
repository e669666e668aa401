/- clock.Clock at one key type: New, Drop, Victim. -/
import Derived.Test.YtcocdhlpmgfphaaOpsS
namespace Go.Proofs.Ytcocdhlpmgfphaa.S
open Go Go.RowKit Go.Maps Go.WideShapes Go.ChangeMaps Go.WideMaps Go.MapKept

/-! ### New -/
theorem new_any (w : World) : Calls Try.prog 8 #[] w fun e w' => ∃ g mb, e = .returned (.pointer (some ⟨g, 0, none⟩)) ∧ Below w.heap.size w w' ∧ w.heap.size ≤ g ∧ w.heap.size ≤ mb ∧ At w' w.heap.size g mb 0 (.slice none 0 0) [] := by
  have hmm := @run_makeMap Try.prog
  go_enter Try.func8, Try.ntmps8
  go_wp2
  go_ret
  refine ⟨w.heap.size + 1, w.heap.size, rfl, by go_grown, by omega, Nat.le_refl _, ⟨?_, Sl.nil _ _ _ _, ⟨.map [], 0, ?_, Nat.le_refl _, by intro k; simp [Maps.has]⟩, by simp [keysOf], by simp [keysOf], by omega, Nat.le_refl _, by simp [keysOf], by omega⟩⟩
  · show ((w.heap.push _).push _)[w.heap.size + 1]? = _
    rw [Array.getElem?_push, if_pos (by simp)]
  · have := World.ownsMap_made w Try.prog 9 (unitElem (H := Unit))
    exact ownsMap_of this (alloc_old _ _ _ (by rw [alloc_size]; omega))

/-! ### Drop -/
theorem filter_cut {l : List K} : ∀ {k : Nat} {s : K}, l.Nodup → l[k]? = some s → l.filter (fun x => decide (x ≠ s)) = l.take k ++ l.drop (k + 1) := by
  induction l with
  | nil => intro k s _ h; simp at h
  | cons a l ih =>
    intro k s hn h
    rw [List.nodup_cons] at hn
    cases k with
    | zero =>
      simp only [List.getElem?_cons_zero, Option.some.injEq] at h
      subst h
      rw [List.filter_cons_of_neg (by simp)]
      simp only [List.take_zero, List.nil_append, List.drop_succ_cons, List.drop_zero]
      rw [List.filter_eq_self]
      intro x hx
      simp only [ne_eq, decide_eq_true_eq]
      rintro rfl
      exact hn.1 hx
    | succ k =>
      simp only [List.getElem?_cons_succ] at h
      have hs := List.mem_of_getElem? h
      rw [List.filter_cons_of_pos (by simp only [ne_eq, decide_eq_true_eq]; rintro rfl; exact hn.1 hs), ih hn.2 h]
      simp
theorem keys_drop (L : St) (s : K) : keysOf (drop L s) = (keysOf L).filter (fun x => decide (x ≠ s)) := by
  unfold keysOf drop
  rw [List.filter_map]
  rfl
theorem drop_len {L : St} {s : K} : (keysOf (drop L s)).length ≤ (keysOf L).length := by
  rw [keys_drop]; exact List.length_filter_le _ _

theorem drop_no {w : World} {B g mb c : Nat} {v : Value} {L : St} (h : At w B g mb c v L) (s : K) (hin : s ∉ keysOf L) :
    Calls Try.prog 22 #[.pointer (some ⟨g, 0, none⟩), .string s] w fun e w' => e = .returned (.bool false) ∧ w = w' := by
  have HH := Lib.hid (has_any h s false (by simp [hin]))
  clear h hin
  go_enter Try.func22, Try.ntmps22
  go_wp2_with fail
  refine HH.out.mono ?_
  rintro e w' ⟨rfl, rfl⟩
  go_wp2_with fail
  go_ret
  exact ⟨rfl, rfl⟩

set_option maxHeartbeats 1000000 in
theorem drop_yes {w : World} {B g mb c : Nat} {v : Value} {L : St} (h : At w B g mb c v L) (s : K) (hin : s ∈ keysOf L) :
    Calls Try.prog 22 #[.pointer (some ⟨g, 0, none⟩), .string s] w fun e w' => ∃ v', e = .returned (.bool true) ∧ Turn g mb w w' v v' ∧ At w' B g mb c v' (drop L s) := by
  have c0 := h.c0'
  have c1 := h.c1'
  have HH := Lib.hid (has_any h s true (by simp [hin]))
  obtain ⟨D, n, hown, hn, hD⟩ := h.map
  have hkey := key_of (h.ok s hin)
  have hpos : 0 < (keysOf L).length := by
    rcases Nat.eq_zero_or_pos (keysOf L).length with h0 | h0
    · rw [List.length_eq_zero_iff.1 h0] at hin; cases hin
    · exact h0
  obtain ⟨b, off, cap, rfl, _, _⟩ := h.row.shape hpos
  have hfew := h.few
  have hcc := h.c0
  have HI := Lib.hid (index_any _ cap (keysOf L) s w h.row (by omega))
  have HAT := Lib.hid h
  have HD := Lib.hid (And.intro hown hD)
  have HIN := Lib.hid hin
  clear h hD hin hown
  go_enter Try.func22, Try.ntmps22
  go_wp2_with fail
  refine HH.out.mono ?_
  rintro e w' ⟨rfl, rfl⟩
  go_wp2_with fail
  refine HI.out.mono ?_
  rintro e w' ⟨rfl, ⟨k, hk, _, rfl⟩ | ⟨hno, _⟩⟩
  · have hkl : k < (keysOf L).length := (List.getElem?_eq_some_iff.1 hk).1
    have HK := Lib.hid hk
    have HX := Lib.hid (del_any b off cap k (keysOf L) w HAT.out.row hkl)
    clear hk
    go_wp2_with fail
    refine HX.out.mono ?_
    rintro e w1 ⟨rfl, hsl, hgrow⟩
    have h := HAT.out
    have hbv : (Value.slice (some ⟨b, off, none⟩) (keysOf L).length cap).ownBlock = some b := rfl
    have hgb : some g ≠ some b := fun e => h.gv (hbv.trans e.symm)
    have hmb : some mb ≠ some b := fun e => h.mv (hbv.trans e.symm)
    have hg1 : w1.heap[g]? = some (.cells #[.slice (some ⟨b, off, none⟩) (keysOf L).length cap, .map (some mb)] 54) := (hgrow.block g h.glt hgb).trans h.obj
    have hm1 := ownsMap_of HD.out.1 (w' := w1) (hgrow.block mb h.mlt hmb)
    have hput := put_row hg1 hm1 hsl
    have htn : Turn g mb w w1 (.slice (some ⟨b, off, none⟩) (keysOf L).length cap) (.slice (some ⟨b, off, none⟩) ((keysOf L).length - 1) cap) := by
      refine ⟨hgrow.os, hgrow.tape, hgrow.output, hgrow.size, fun k hk _ _ hv => hgrow.block k hk (fun e => hv e.symm), fun k hk => .inl hk⟩
    obtain ⟨p0, pf, p1⟩ := put_cells hg1
    have hown2 := hput.map
    have HP := Lib.hid (And.intro hput htn)
    clear hsl hgrow hg1 hm1 hput htn h c0 c1 hbv hgb hmb
    go_wp2_with (at_delete; refine wpList_delete_own _ rfl (.tmp 30) (.tmp 31) 52 9 rfl 57 law Try.underlying52 unitElem mb n D rfl hown2 _ _ rfl hkey ?_)
    intro w3 hown3 hturn3
    have HT := Lib.hid (And.intro hown3 hturn3)
    clear hown3 hturn3 hown2 p0 pf p1
    go_wp2_with fail
    go_ret
    have h := HAT.out
    have hp := HP.out.1
    have hg := HT.out.2.grown
    have hke : keysOf (drop L s) = (keysOf L).take k ++ (keysOf L).drop (k + 1) := by rw [keys_drop]; exact filter_cut h.nodup HK.out
    have hkn : (keysOf (drop L s)).length = (keysOf L).length - 1 := by rw [hke]; simp; omega
    have hlt := heap_lt hp.obj
    refine ⟨_, rfl, ?_, ⟨(hg.block g hlt (fun e => hp.gm (by cases e; rfl))).trans hp.obj, ?_, ⟨_, _, HT.out.1, hn, fun q => ?_⟩, ?_, ?_, h.g0, h.m0, Nat.le_trans drop_len h.few, h.c0⟩⟩
    · exact (HP.out.2.trans (Turn.of_grown hp.grown (fun k hk => by cases hk; exact .inl rfl))).trans (Turn.of_grown hg (fun k hk => by cases hk; exact .inr (.inl rfl)))
    · rw [hkn, hke]
      exact hp.row.grown hg (.inr hp.nm)
    · rw [has_del, mem_drop, HD.out.2]
    · rw [keys_drop]; exact h.nodup.filter _
    · intro q hq
      rw [keys_drop, List.mem_filter] at hq
      exact h.ok q hq.1
  · exact absurd HIN.out hno
end Go.Proofs.Ytcocdhlpmgfphaa.S
