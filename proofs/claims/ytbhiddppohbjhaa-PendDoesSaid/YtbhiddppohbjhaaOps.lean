/- pend.Table: Of, By. -/
import Derived.Test.YtbhiddppohbjhaaTab
namespace Go.Proofs.Ytbhiddppohbjhaa
open Go Go.RowKit Go.Maps Go.WideShapes Go.ChangeMaps Go.WideMaps Go.MapKept
set_option maxRecDepth 100000
/-- a result that lies in a cell -/
theorem load_row {w : World} {b : Nat} {p : Pd} (hp : p.ok) (hb : w.heap[b]? = some (.cells p.arr 37)) : (loadVar 37 ⟨b, 0, none⟩).run Try.prog w = .ok (.agg p.arr) w :=
  run_loadVar_row w b 37 37 p.arr _ _ hb Try.underlying37 rfl (by rw [Pd.size hp]; exact size37)
theorem res_two {fn : Func} {c s : Nat} (h : fn.results = #[.cell c 37, .tmp s]) (tmps : Array Value) (w : World) (g : Nat) (p : Pd) (hp : p.ok) (v : Value) (hc : tmps.getD c undef = .pointer (some ⟨g, 0, none⟩)) (hs : tmps.getD s undef = v) (hb : w.heap[g]? = some (.cells p.arr 37)) :
    (results fn tmps).run Try.prog w = .ok (.tuple #[.agg p.arr, v]) w := by
  have hlv := load_row hp hb
  have hc' : tmps[c]?.getD undef = .pointer (some ⟨g, 0, none⟩) := by simpa using hc
  have hs' : tmps[s]?.getD undef = v := by simpa using hs
  simp [results, h, hc', hs', asAddr, hlv]
def OfV (o : Option Pd) (w : World) (e : Ending) (w' : World) : Prop := e = .returned (.tuple #[.agg (vOf o).arr, .bool o.isSome]) ∧ Below w.heap.size w w'
set_option maxHeartbeats 4000000 in
theorem of_nil (k : Int) (w : World) : Calls Try.prog 16 #[.pointer none, .int .i64 k] w (OfV none w) := by
  have H1 := Lib.hid made_nil
  go_enter Try.func16, Try.ntmps16
  go_wp2_with (first | (refine pw_alloc rfl rfl ?_))
  refine (H1.out _).mono ?_
  rintro e w1 ⟨rfl, rfl⟩
  go_wp2_with (first | (refine pw_build rfl rfl ?_) | (refine pw_store rfl (.tmp 4) (.tmp 11) rfl w.heap.size zP zP_ok zP.arr (Pd.size zP_ok) rfl rfl (heap_alloc_new _ _) ?_; intro w2 hb2 hg2 hs2; have hbl : Below w.heap.size w w2 := (show Below w.heap.size w (w.alloc (.cells zP.arr 37)) by go_grown).grown hg2 (by rw [alloc_size]; omega) (fun j hj => by cases hj; exact Nat.le_refl _)))
  (try simp only [Exit.inBlock, Exit.then])
  refine bodyPost_ret (res_two Try.results16 _ _ w.heap.size zP zP_ok _ rfl rfl hb2) rfl ?_
  exact ⟨rfl, hbl⟩
section
variable {w : World} {B g mb : Nat} {M : Tb}
set_option maxHeartbeats 4000000 in
theorem of_any (h : PA w B g mb M) {k : Int} (hk : kok k) : Calls Try.prog 16 #[.pointer (some ⟨g, 0, none⟩), .int .i64 k] w (OfV (M k) w) := by
  have h1 := h.below (w' := w.alloc (.cells zP.arr 37)) (by go_grown)
  have H1 := Lib.hid (made_yes h1)
  have HL := h1.map.look hk
  have c0 := h1.cc
  have hok := h.ok.vok k
  clear h h1
  go_enter Try.func16, Try.ntmps16
  go_wp2_with (first | (refine pw_alloc rfl rfl ?_))
  refine H1.out.mono ?_
  rintro e w1 ⟨rfl, rfl⟩
  generalize hp0 : vOf (M k) = p at *
  generalize hb0 : (M k).isSome = b at *
  go_wp2_with (first
    | (refine pw_put _ 6 (.tmp 19) rfl rfl rfl rfl rfl rfl p hok rfl rfl ?_)
    | (refine pw_load rfl (.tmp 6) rfl (w.heap.size + 1) rfl p hok (heap_new_at _ _ (alloc_size _ _)) ?_)
    | (refine pw_store rfl (.tmp 4) (.tmp 21) rfl w.heap.size p hok zP.arr (Pd.size zP_ok) rfl rfl (heap_old_at (heap_alloc_new _ _)) ?_; intro w2 hb2 hg2 hs2; have hbl : Below w.heap.size w w2 := (show Below w.heap.size w ((w.alloc (.cells zP.arr 37)).alloc (.cells p.arr 37)) by go_grown).grown hg2 (by rw [alloc_size, alloc_size]; omega) (fun j hj => by cases hj; exact Nat.le_refl _)))
  (try simp only [Exit.inBlock, Exit.then])
  refine bodyPost_ret (res_two Try.results16 _ _ w.heap.size p hok (.bool b) rfl rfl hb2) rfl ?_
  exact ⟨by rw [hp0, hb0], hbl⟩
/-- the first client whose call was handed on by a number -/
def upIs (o : Option Pd) (u : Int) : Bool := match o with
  | none => false
  | some p => decide (p.up = u)
def byK (M : Tb) (u : Int) : Option Pd := if upIs (M 1) u then M 1 else if upIs (M 2) u then M 2 else if upIs (M 3) u then M 3 else if upIs (M 4) u then M 4 else none
/-- what By has looked at -/
def byTo (M : Tb) (u : Int) (k : Nat) : Prop := ∀ j : Nat, 1 ≤ j → j < k → upIs (M j) u = false
theorem by_at {M : Tb} {u : Int} {k : Nat} (h : byTo M u k) (h1 : 1 ≤ k) (h4 : k ≤ 4) (hu : upIs (M k) u = true) : byK M u = M k := by
  unfold byK
  have h5 : k = 1 ∨ k = 2 ∨ k = 3 ∨ k = 4 := by omega
  rcases h5 with rfl | rfl | rfl | rfl
  · rw [if_pos (show upIs (M 1) u = true from hu)]; rfl
  · rw [if_neg (by have := h 1 (by omega) (by omega); simp at this; simp [this]), if_pos (show upIs (M 2) u = true from hu)]; rfl
  · rw [if_neg (by have := h 1 (by omega) (by omega); simp at this; simp [this]), if_neg (by have := h 2 (by omega) (by omega); simp at this; simp [this]), if_pos (show upIs (M 3) u = true from hu)]; rfl
  · rw [if_neg (by have := h 1 (by omega) (by omega); simp at this; simp [this]), if_neg (by have := h 2 (by omega) (by omega); simp at this; simp [this]), if_neg (by have := h 3 (by omega) (by omega); simp at this; simp [this]), if_pos (show upIs (M 4) u = true from hu)]; rfl
theorem by_none {M : Tb} {u : Int} (h : byTo M u 5) : byK M u = none := by
  unfold byK
  rw [if_neg (by have := h 1 (by omega) (by omega); simp at this; simp [this]), if_neg (by have := h 2 (by omega) (by omega); simp at this; simp [this]), if_neg (by have := h 3 (by omega) (by omega); simp at this; simp [this]), if_neg (by have := h 4 (by omega) (by omega); simp at this; simp [this])]
theorem by_next {M : Tb} {u : Int} {k : Nat} (h : byTo M u k) (hk : upIs (M k) u = false) : byTo M u (k + 1) := fun j h1 h2 => by
  rcases Nat.lt_or_ge j k with h3 | h3
  · exact h j h1 h3
  · obtain rfl : j = k := by omega
    exact hk
theorem by_below {w wr w2 : World} {o : Obj} (h0 : Below w.heap.size w (w.alloc o)) (h : Below (w.heap.size + 1) (w.alloc o) wr) (hg : wr.grownBy w2 (some w.heap.size)) : Below w.heap.size w w2 := by
  have h1 : Below w.heap.size w wr := h0.trans (h.mono (by omega))
  exact h1.grown hg h1.size (fun j hj => by cases hj; exact Nat.le_refl _)
theorem by_nil (u : Int) (w : World) : Calls Try.prog 18 #[.pointer none, .int .i64 u] w (OfV none w) := by
  have H1 := Lib.hid made_nil
  go_enter Try.func18, Try.ntmps18
  go_wp2_with (first | (refine pw_alloc rfl rfl ?_))
  refine (H1.out _).mono ?_
  rintro e w1 ⟨rfl, rfl⟩
  go_wp2_with (first | (refine pw_build rfl rfl ?_) | (refine pw_store rfl (.tmp 4) (.tmp 12) rfl w.heap.size zP zP_ok zP.arr (Pd.size zP_ok) rfl rfl (heap_alloc_new _ _) ?_; intro w2 hb2 hg2 hs2; have hbl : Below w.heap.size w w2 := (show Below w.heap.size w (w.alloc (.cells zP.arr 37)) by go_grown).grown hg2 (by rw [alloc_size]; omega) (fun j hj => by cases hj; exact Nat.le_refl _)))
  (try simp only [Exit.inBlock, Exit.then])
  refine bodyPost_ret (res_two Try.results18 _ _ w.heap.size zP zP_ok _ rfl rfl hb2) rfl ?_
  exact ⟨rfl, hbl⟩
set_option maxHeartbeats 8000000 in
theorem by_any (h : PA w B g mb M) (u : Int) : Calls Try.prog 18 #[.pointer (some ⟨g, 0, none⟩), .int .i64 u] w (OfV (byK M u) w) := by
  have h1 := h.below (w' := w.alloc (.cells zP.arr 37)) (by go_grown)
  have H1 := Lib.hid (made_yes h1)
  have HH := Lib.hid h1
  have HB0 : Hid (Below w.heap.size w (w.alloc (.cells zP.arr 37))) := Lib.hid (by go_grown)
  clear h h1
  go_enter Try.func18, Try.ntmps18
  go_wp2_with (first | (refine pw_alloc rfl rfl ?_))
  refine H1.out.mono ?_
  rintro e w1 ⟨rfl, rfl⟩
  go_wp2_with fail
  go_loopw [6] (fun i wr => ∃ k : Nat, 1 ≤ k ∧ k ≤ 5 ∧ i = .int .i64 k ∧ byTo M u k ∧ Below (w.heap.size + 1) (w.alloc (.cells zP.arr 37)) wr) (fun i _ => 5 - (intOf i).toNat)
  case atStart => exact ⟨1, by omega, by omega, rfl, fun j h1 h2 => by omega, Below.refl _ _⟩
  case round =>
    obtain ⟨k, hk1, hk5, rfl, hto, hb⟩ := hrel
    have hz : wr.heap[w.heap.size]? = some (.cells zP.arr 37) := (hb.block _ (by omega)).trans (heap_alloc_new _ _)
    by_cases hlt : k ≤ 4
    · have hp := HH.out.below (hb.mono (by rw [alloc_size]; exact Nat.le_refl _))
      have HL := hp.map.look (kok_of (show 1 ≤ (k : Int) ∧ (k : Int) ≤ 4 by omega))
      have c0 := hp.cc
      have HP := Lib.hid hp
      have HB := Lib.hid hb
      have HT := Lib.hid hto
      have HZ := Lib.hid hz
      clear hp hb hto hz
      cases hm : M k with
      | none =>
        rw [hm] at HL
        have HM := Lib.hid hm
        clear hm
        go_wp2_with (first
          | (refine pw_put _ 7 (.tmp 24) rfl rfl rfl rfl rfl rfl zP zP_ok rfl rfl ?_))
        go_roundw
        case rel => exact ⟨k + 1, by omega, by omega, by go_num, by_next HT.out (by rw [HM.out]; rfl), HB.out.trans ((show Below wr.heap.size wr _ by go_grown).mono (by have := HB.out.size; rw [alloc_size] at this; exact this))⟩
        case measure => simp [intOf]; omega
      | some q =>
        rw [hm] at HL
        have hok := HP.out.ok.ok _ _ hm
        have a7 : q.arr[7]? = some (.int .i64 q.up) := rfl
        have HM := Lib.hid hm
        clear hm
        by_cases hu : q.up = u
        · have hu1 : (q.up == u) = true := by simp [hu]
          have HU := Lib.hid hu
          clear hu
          go_wp2_with (first
            | (refine pw_put _ 7 (.tmp 24) rfl rfl rfl rfl rfl rfl q hok rfl rfl ?_)
            | (refine pw_load rfl (.tmp 7) rfl wr.heap.size rfl q hok (heap_alloc_new _ _) ?_)
            | (refine pw_store rfl (.tmp 4) (.tmp 33) rfl w.heap.size q hok zP.arr (Pd.size zP_ok) rfl rfl (heap_old_at HZ.out) ?_; intro w2 hb2 hg2 hs2))
          (try simp only [Exit.inBlock, Exit.then])
          refine bodyPost_ret (res_two Try.results18 _ _ w.heap.size q hok (.bool true) rfl rfl hb2) rfl ?_
          exact ⟨by rw [by_at HT.out hk1 (by omega) (by rw [HM.out]; simp [upIs, HU.out]), HM.out]; rfl, by_below HB0.out (HB.out.trans ((show Below wr.heap.size wr (wr.alloc (.cells q.arr 37)) by go_grown).mono (by have := HB.out.size; rw [alloc_size] at this; exact this))) hg2⟩
        · have hu1 : (q.up == u) = false := by simp [hu]
          have HU := Lib.hid hu
          clear hu
          go_wp2_with (first
            | (refine pw_put _ 7 (.tmp 24) rfl rfl rfl rfl rfl rfl q hok rfl rfl ?_))
          go_roundw
          case rel => exact ⟨k + 1, by omega, by omega, by go_num, by_next HT.out (by rw [HM.out]; simp [upIs, HU.out]), HB.out.trans ((show Below wr.heap.size wr _ by go_grown).mono (by have := HB.out.size; rw [alloc_size] at this; exact this))⟩
          case measure => simp [intOf]; omega
    · have HB := Lib.hid hb
      have HZ := Lib.hid hz
      have HT := Lib.hid (by_none (M := M) (u := u) (by rw [show 5 = k by omega]; exact hto))
      clear hb hz hto
      go_wp2_with (first | (refine pw_build rfl rfl ?_) | (refine pw_store rfl (.tmp 4) (.tmp 34) rfl w.heap.size zP zP_ok zP.arr (Pd.size zP_ok) rfl rfl HZ.out ?_; intro w2 hb2 hg2 hs2))
      (try simp only [Exit.inBlock, Exit.then])
      refine bodyPost_ret (res_two Try.results18 _ _ w.heap.size zP zP_ok _ rfl rfl hb2) rfl ?_
      exact ⟨by rw [HT.out]; rfl, by_below HB0.out HB.out hg2⟩
end
end Go.Proofs.Ytbhiddppohbjhaa
