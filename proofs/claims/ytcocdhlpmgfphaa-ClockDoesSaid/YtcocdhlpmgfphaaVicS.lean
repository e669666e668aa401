/- clock.Clock at one key type: Victim. -/
import Derived.Test.YtcocdhlpmgfphaaDropS
namespace Go.Proofs.Ytcocdhlpmgfphaa.S
open Go Go.RowKit Go.Maps Go.WideShapes Go.ChangeMaps Go.WideMaps Go.MapKept

def marks (L : St) : Nat := L.countP (·.2)
def spin : Nat → St → St
  | n + 1, (k, true) :: r => spin n (r ++ [(k, false)])
  | _, L => L
def vic (L : St) : St := spin (marks L) L
theorem vic_step (k : K) (r : St) : vic ((k, true) :: r) = vic (r ++ [(k, false)]) := by
  have h1 : marks ((k, true) :: r) = marks r + 1 := by simp [marks]
  have h2 : marks (r ++ [(k, false)]) = marks r := by simp [marks, List.countP_append]
  unfold vic
  rw [h1, h2]
  rfl
theorem vic_stop (k : K) (r : St) : vic ((k, false) :: r) = (k, false) :: r := by
  unfold vic
  cases marks ((k, false) :: r) <;> rfl

def msize (w : World) (mb : Nat) : Nat := match w.heap[mb]? with | some (.map es _) => es.size | _ => 0
theorem msize_of {w : World} {mb n : Nat} {D : DataW Unit} (h : w.ownsMap Try.prog 9 unitElem mb n D) : msize w mb = Maps.size D := by
  obtain ⟨es, ck, hb, _, _, rfl⟩ := h
  unfold msize
  rw [hb]
  simp [Maps.size, length_read]
theorem msize_same {w w' : World} {mb : Nat} (h : w'.heap[mb]? = w.heap[mb]?) : msize w' mb = msize w mb := by unfold msize; rw [h]
theorem tail_own (q : Prop) [Decidable q] (b o o' n m : Nat) : (Value.slice (if q then some ⟨b, o, none⟩ else some ⟨b, o', none⟩) n m).ownBlock = some b := by split <;> rfl

theorem victim_none {w : World} {B g mb c : Nat} {v : Value} {L : St} (h : At w B g mb c v L) (hL : L = []) :
    Calls Try.prog 10 #[.pointer (some ⟨g, 0, none⟩)] w fun e w' => e = .returned (.tuple #[.string ⟨#[]⟩, .bool false]) ∧ w = w' := by
  have c0 := h.c0'
  have HM := Lib.hid (made_any g mb w h.c1')
  obtain ⟨A, cap, rfl, _, _⟩ := h.row.any
  subst hL
  have e0 : (keysOf ([] : St)).length = 0 := rfl
  rw [e0] at c0
  clear h
  go_enter Try.func10, Try.ntmps10
  go_wp2_with fail
  refine HM.out.mono ?_
  rintro e w' ⟨rfl, rfl⟩
  go_wp2_with fail
  go_ret2
  exact ⟨rfl, rfl⟩

/-- what a round leaves -/
theorem turned {w1 w2 w3 : World} {B g mb c n b off cap : Nat} {k : K} {r : St} {v'' : Value} {D : DataW Unit} (h : At w1 B g mb c (.slice (some ⟨b, off, none⟩) (n + 1) cap) ((k, true) :: r)) (hn : (keysOf r).length = n)
    (hD : ∀ q, has D (kl q) = true ↔ (q, true) ∈ (k, true) :: r) (m : Nat) (hm : m ≤ c) (hown : w2.ownsMap Try.prog 9 unitElem mb m (D.del (kl k))) (hturn : w1.grownBy w2 (some mb))
    (hsl : Sl w3 B 9 1 v'' (n + 1) (encs (keysOf r) ++ [.string k])) (hgrow : (w2.alloc (.cells #[.string k] 9)).grownBy w3 (some b)) (ho : ∀ q, v''.ownBlock = some q → some b = some q ∨ w2.heap.size + 1 ≤ q) :
    (w3.heap[g]? = some (.cells #[.slice (some ⟨b, off, none⟩) (n + 1) cap, .map (some mb)] 54)) ∧
    At (w3.setCell ⟨g, 0, none⟩ v'') B g mb c v'' (r ++ [(k, false)]) ∧ Turn g mb w1 (w3.setCell ⟨g, 0, none⟩ v'') (.slice (some ⟨b, off, none⟩) (n + 1) cap) v'' ∧ msize (w3.setCell ⟨g, 0, none⟩ v'') mb = Maps.size (D.del (kl k)) := by
  subst hn
  have hbv : (Value.slice (some ⟨b, off, none⟩) ((keysOf r).length + 1) cap).ownBlock = some b := rfl
  have hgb : some g ≠ some b := fun e => h.gv (hbv.trans e.symm)
  have hmb : some mb ≠ some b := fun e => h.mv (hbv.trans e.symm)
  have hgm : some g ≠ some mb := fun e => h.gm (by cases e; rfl)
  have hs2 := hturn.size
  have hg2 := (hturn.block g h.glt hgm).trans h.obj
  have hml : mb < w2.heap.size := Nat.lt_of_lt_of_le h.mlt hs2
  have hg3 : w3.heap[g]? = some (.cells #[.slice (some ⟨b, off, none⟩) ((keysOf r).length + 1) cap, .map (some mb)] 54) := (hgrow.block g (by rw [alloc_size]; have := heap_lt hg2; omega) hgb).trans ((alloc_old _ _ _ (heap_lt hg2)).trans hg2)
  have hm3 := ownsMap_of hown (w' := w3) ((hgrow.block mb (by rw [alloc_size]; omega) hmb).trans (alloc_old _ _ _ hml))
  have hput := put_row hg3 hm3 hsl
  have hk2 : keysOf (r ++ [(k, false)]) = keysOf r ++ [k] := by simp [keysOf]
  have hnd := h.nodup
  have hkc : keysOf ((k, true) :: r) = k :: keysOf r := rfl
  rw [hkc, List.nodup_cons] at hnd
  refine ⟨hg3, ⟨hput.obj, ?_, ⟨_, _, hput.map, hm, fun q => ?_⟩, ?_, ?_, h.g0, h.m0, ?_, h.c0⟩, ?_, msize_of hput.map⟩
  · rw [hk2, List.length_append, ← encs_append]
    exact hput.row
  · rw [has_del, hD, List.mem_append]
    constructor
    · rintro ⟨h1, h2⟩
      rcases List.mem_cons.1 h2 with h3 | h3
      · cases h3; exact absurd rfl h1
      · exact .inl h3
    · rintro (h1 | h1)
      · exact ⟨fun e => hnd.1 (mem_keys.2 ⟨true, e ▸ h1⟩), List.mem_cons_of_mem _ h1⟩
      · simp at h1
  · rw [hk2, List.nodup_append]
    refine ⟨hnd.2, by simp, fun a ha b hb => ?_⟩
    simp at hb
    rintro rfl
    exact hnd.1 (hb ▸ ha)
  · intro q hq
    rw [hk2, List.mem_append] at hq
    apply h.ok
    rw [hkc]
    rcases hq with h1 | h1
    · exact List.mem_cons_of_mem _ h1
    · simp at h1; subst h1; simp
  · have := h.few
    rw [hkc] at this
    rw [hk2]; simpa using this
  · have t1 : Turn g mb w1 w2 (.slice (some ⟨b, off, none⟩) ((keysOf r).length + 1) cap) (.slice (some ⟨b, off, none⟩) ((keysOf r).length + 1) cap) := Turn.of_grown hturn (fun k hk => by cases hk; exact .inr (.inl rfl))
    have t2 : Turn g mb w2 w3 (.slice (some ⟨b, off, none⟩) ((keysOf r).length + 1) cap) v'' := by
      refine ⟨hgrow.os, hgrow.tape, hgrow.output, Nat.le_trans (by rw [alloc_size]; omega) hgrow.size, fun k hk _ _ hv => (hgrow.block k (by rw [alloc_size]; omega) (fun e => hv (hbv.trans e.symm))).trans (alloc_old _ _ k hk), fun k hk => ?_⟩
      rcases ho k hk with h1 | h1
      · exact .inl (hbv.trans h1)
      · exact .inr (by omega)
    exact (t1.trans t2).trans (Turn.of_grown hput.grown (fun k hk => by cases hk; exact .inl rfl))

def VictimV (B g mb c : Nat) (v : Value) (L : St) (w : World) (e : Ending) (w' : World) : Prop :=
  ∃ k r v', vic L = (k, false) :: r ∧ e = .returned (.tuple #[.string k, .bool true]) ∧ Turn g mb w w' v v' ∧ At w' B g mb c v' (vic L)

set_option maxRecDepth 100000 in
set_option maxHeartbeats 4000000 in
theorem victim_some {w : World} {B g mb c : Nat} {v : Value} {L : St} (h : At w B g mb c v L) (hB : B ≤ w.heap.size) (hL : L ≠ []) :
    Calls Try.prog 10 #[.pointer (some ⟨g, 0, none⟩)] w (VictimV B g mb c v L w) := by
  obtain ⟨i0, hi, hz0, hz1, hz2⟩ := info_parts info9
  have c0 := h.c0'
  have HM := Lib.hid (made_any g mb w h.c1')
  have hpos : 0 < (keysOf L).length := by
    cases L with
    | nil => exact absurd rfl hL
    | cons x r => simp [keysOf]
  obtain ⟨b, off, cap, rfl, _, _⟩ := h.row.shape hpos
  have hne : ((((keysOf L).length : Nat) : Int) == 0) = false := neI' (by omega)
  have HAT := Lib.hid h
  clear h
  go_enter Try.func10, Try.ntmps10
  go_wp2_with fail
  refine HM.out.mono ?_
  rintro e w' ⟨rfl, rfl⟩
  go_wp2_with fail
  clear c0 hne
  go_loopw [5] (fun f wr => ∃ (L' : St) (v' : Value), L' ≠ [] ∧ At wr B g mb c v' L' ∧ Turn g mb w wr (.slice (some ⟨b, off, none⟩) (keysOf L).length cap) v' ∧ vic L' = vic L ∧ B ≤ wr.heap.size) (fun _ wr => msize wr mb)
  case atStart => exact ⟨L, _, hL, HAT.out, Turn.refl _ _ _ _, rfl, hB⟩
  case round =>
    obtain ⟨L', v', hL', hat, htn, hvic, hBr⟩ := hrel
    match L', hL' with
    | (k, m) :: r, _ =>
      obtain ⟨n, hn⟩ : ∃ n, n = (keysOf r).length := ⟨_, rfl⟩
      have hkc : keysOf ((k, m) :: r) = k :: keysOf r := rfl
      have hkl : (keysOf ((k, m) :: r)).length = n + 1 := by rw [hkc, List.length_cons, ← hn]
      obtain ⟨b', off', cap', rfl, hcap, hcm⟩ := hat.row.shape (by rw [hkl]; omega)
      rw [hkl] at hcap
      have hnd := hat.nodup
      rw [hkc, List.nodup_cons] at hnd
      have hmk : m = true ↔ (k, true) ∈ (k, m) :: r := by
        constructor
        · rintro rfl; simp
        · intro h1
          rcases List.mem_cons.1 h1 with h2 | h2
          · cases h2; rfl
          · exact absurd (mem_keys.2 ⟨true, h2⟩) hnd.1
      have HMk := Lib.hid (marked_any hat k (hat.ok k (by rw [hkc]; simp)) m hmk)
      have d0 : wr.cell? ⟨g, 0, none⟩ = some (.slice (some ⟨b', off', none⟩) (n + 1) cap') := by rw [← hkl]; exact hat.c0'
      have d1 : wr.cell? ⟨b', off', none⟩ = some (.string k) := hat.row.cell (j := 0) (by rw [hkc]; rfl)
      have HA := Lib.hid (And.intro hat (And.intro htn (And.intro hvic hBr)))
      have HN := Lib.hid (And.intro hn (And.intro hkc hkl))
      clear hat htn hvic hBr hmk hnd hn hkc hkl
      go_wp2_with fail
      refine HMk.out.mono ?_
      rintro e w1 ⟨rfl, hb1⟩
      have hn := HN.out.1
      have hkc := HN.out.2.1
      have hkl := HN.out.2.2
      have hat1 := HA.out.1.below hb1
      have htn1 := HA.out.2.1.trans (Turn.of_below hb1)
      have hms := msize_same (hb1.block mb HA.out.1.mlt)
      have d2 : w1.cell? ⟨g, 0, none⟩ = some (.slice (some ⟨b', off', none⟩) (n + 1) cap') := by rw [← hkl]; exact hat1.c0'
      have d3 : w1.cell? ⟨b', off', none⟩ = some (.string k) := hat1.row.cell (j := 0) (by rw [hkc]; rfl)
      have d4 := hat1.c1'
      have hsz : B ≤ w1.heap.size := Nat.le_trans HA.out.2.2.2 hb1.size
      cases m with
      | false =>
        have HF := Lib.hid (And.intro hat1 htn1)
        clear hat1 htn1 hb1 d0 d1 hn hkc hkl
        go_wp2_with fail
        go_ret2
        exact ⟨k, r, _, by rw [← HA.out.2.2.1, vic_stop], rfl, HF.out.2, by rw [← HA.out.2.2.1, vic_stop]; exact HF.out.1⟩
      | true =>
        obtain ⟨D, q, hown, hq, hD⟩ := hat1.map
        have hkey := key_of (hat1.ok k (by rw [hkc]; simp))
        have hms1 := msize_of hown
        have hdel := Maps.size_del (k := kl k) (hown.tidy law)
        rw [(hD k).2 (by simp)] at hdel
        have HZ := Lib.hid (And.intro hms (And.intro hms1 hdel))
        have HF := Lib.hid (And.intro hat1 (And.intro htn1 hD))
        clear hat1 htn1 hb1 d0 d1 hD hms hms1 hdel hn hkc hkl
        go_wp2_with (at_delete; refine wpList_delete_own _ rfl (.tmp 35) (.tmp 36) 52 9 rfl 57 law Try.underlying52 unitElem mb q D rfl hown _ _ rfl hkey ?_)
        intro w2 hown2 hturn2
        have hg2 := hturn2.grown
        have hgm := HF.out.1.gm
        have hn := HN.out.1
        have hkc := HN.out.2.1
        have hkl := HN.out.2.2
        have d5 : w2.cell? ⟨g, 0, none⟩ = some (.slice (some ⟨b', off', none⟩) (n + 1) cap') := by
          have := (hg2.block g HF.out.1.glt (fun e => hgm (by cases e; rfl))).trans HF.out.1.obj
          rw [row_cell this, ← hkl]; rfl
        have hsl2 : Sl w2 B 9 1 (.slice (some ⟨b', off', none⟩) (n + 1) cap') (n + 1) (encs (k :: keysOf r)) := by
          have := HF.out.1.row.grown hg2 (.inr HF.out.1.mv)
          rw [hkl] at this
          exact this
        have hsl3 := (hsl2.tail).below (w' := w2.alloc (.cells #[.string k] 9)) (by go_grown)
        obtain ⟨A, hA, hAb⟩ : ∃ A : Addr, (if cap' = 1 then some (⟨b', off', none⟩ : Addr) else some ⟨b', off' + 1, none⟩) = some A ∧ A.block = b' := by
          by_cases h1 : cap' = 1
          · exact ⟨_, if_pos h1, rfl⟩
          · exact ⟨_, if_neg h1, rfl⟩
        rw [hA] at hsl3
        have HAb := Lib.hid hAb
        clear hAb
        have hlim : n + 1 ≤ 1000000 := by
          have := HF.out.1.few
          have := HF.out.1.c0
          omega
        have HG := Lib.hid (And.intro hown2 (And.intro hg2 hsl3))
        clear hown2 hturn2 hg2 hsl2 hsl3 d2 d3 d4 hown hn hkc hkl hgm
        have h11 : (1 : Int) ≤ (n : Int) + 1 := by omega
        have h12 : 1 ≤ cap' := by omega
        go_wp2_with (at_builtin; refine wpList_append_sl _ rfl (.tmp 42) (.tmp 44) 22 rfl 9 i0 (.string ⟨#[]⟩) 1 16 Try.underlying22 hi hz0 hz1 hz2 rfl (by decide) rfl HG.out.2.2 (some ⟨w2.heap.size, 0, none⟩) 1 1 [.string k] rfl (by simp) rfl (by intro ad had j u hu; cases had; match j, hu with | 0, hu => simp at hu; subst hu; simp [Addr.add]) (by intro u hu; simp at hu; subst hu; rfl) (by unfold maxLen; omega) (by omega) (by have := HG.out.2.1.size; rw [alloc_size]; omega) ?_)
        intro v'' w3 hsl hgrow ho
        have hown' : (Value.slice (some A) n (cap' - 1)).ownBlock = some b' := by rw [← HAb.out]; rfl
        rw [hown'] at hgrow ho
        have hfin := turned (by have := HF.out.1; rw [HN.out.2.2] at this; exact this) HN.out.1.symm HF.out.2.2 q hq HG.out.1 HG.out.2.1 hsl hgrow ho
        obtain ⟨_, _, _, rfl, _, _⟩ := hsl.shape (by omega)
        obtain ⟨p0, pf, p1⟩ := put_cells hfin.1
        have HX := Lib.hid hfin.2
        clear hsl hgrow ho hfin hown'
        go_wp2_with fail
        go_roundw
        case rel =>
          have hx := HX.out
          refine ⟨r ++ [(k, false)], _, by simp, hx.1, (by have := HF.out.2.1; rw [HN.out.2.2] at this; exact this.trans hx.2.1), by rw [← vic_step]; exact HA.out.2.2.1, Nat.le_trans hsz hx.2.1.size⟩
        case measure =>
          have h1 := HX.out.2.2
          have h2 := HZ.out
          simp only [if_true] at h2
          omega
end Go.Proofs.Ytcocdhlpmgfphaa.S
