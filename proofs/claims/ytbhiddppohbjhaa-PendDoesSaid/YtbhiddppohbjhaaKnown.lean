/- posthouselaw26: one, known. -/
import Derived.Test.YtbhiddppohbjhaaDo
namespace Go.Proofs.Ytbhiddppohbjhaa
open Go Go.RowKit Go.Maps Go.WideShapes Go.ChangeMaps Go.WideMaps Go.MapKept
set_option maxRecDepth 100000
theorem below_of {w w' : World} {mb : Nat} (h : w.grownBy w' (some mb)) (hm : w.heap.size ≤ mb) : Below w.heap.size w w' := ⟨h.os, h.tape, h.output, h.size, fun q hq => h.block q hq (by simp; omega)⟩
def oneP (c u : Int) : Pd := ⟨c, 1, 0, 0, 4, 7, false, u, 0, 0, zre⟩
theorem oneP_ok {c : Int} (h : 1 ≤ c ∧ c ≤ 4) (u : Int) : (oneP c u).ok := ⟨zP_ok.re, kok_of h, by show (Lit.int .i64 0).wf = true; decide⟩
set_option maxHeartbeats 4000000 in
theorem one_any {c : Int} (hc : 1 ≤ c ∧ c ≤ 4) (u : Int) (w : World) : Calls Try.prog 22 #[.int .i64 c, .int .i64 u] w fun e w' => e = .returned (.agg (oneP c u).arr) ∧ Below w.heap.size w w' := by
  have hok := Lib.hid (oneP_ok hc u)
  clear hc
  go_enter Try.func22, Try.ntmps22
  go_wp2_with (first | (refine pw_alloc rfl rfl ?_) | (refine pw_store rfl (.tmp 4) (.tmp 8) rfl w.heap.size (oneP c u) hok.out zP.arr (Pd.size zP_ok) rfl rfl (heap_alloc_new _ _) ?_; intro w2 hb2 hg2 hs2; have hbl : Below w.heap.size w w2 := (show Below w.heap.size w (w.alloc (.cells zP.arr 37)) by go_grown).grown hg2 (by rw [alloc_size]; omega) (fun j hj => by cases hj; exact Nat.le_refl _)))
  (try simp only [Exit.inBlock, Exit.then])
  refine bodyPost_ret (results_cell_row Try.results22 _ _ w.heap.size 37 (oneP c u).arr _ _ rfl hb2 Try.underlying37 rfl (by rw [Pd.size hok.out]; exact size37)) rfl ?_
  exact ⟨rfl, hbl⟩
def kM1 : Tb := upd (fun _ => none) 1 (some (oneP 1 9))
def kM2 : Tb := upd kM1 1 (some (again (oneP 1 9) 5 7))
theorem k_put1 : putM (fun _ => none) (oneP 1 9) = (kM1, true) := by
  unfold putM
  rw [if_pos ⟨by decide, fun o ho => by simp [byK, upIs] at ho⟩]
  rfl
theorem k_by1 : byK kM1 9 = some (oneP 1 9) := by
  unfold byK
  rw [if_pos (by simp [kM1, upd, upIs, oneP])]
  rfl
theorem k_put2 : putM kM1 (oneP 2 9) = (kM1, false) := by
  unfold putM
  rw [if_neg fun h => by
    have := h.2 (oneP 1 9) k_by1
    simp [oneP] at this]
theorem k_came : cameM kM1 1 5 7 = (kM2, true) := rfl
theorem k_by2 : byK kM2 9 = some (again (oneP 1 9) 5 7) := by
  unfold byK
  rw [if_pos (by simp [kM2, upd, upIs, oneP, again])]
  rfl
theorem k_cnt : cnt kM2 = 1 := by simp [cnt, kM2, kM1, upd, one]
theorem k_ag : (again (oneP 1 9) 5 7).ag = true := by simp [again, oneP]
set_option maxHeartbeats 16000000 in
theorem known_any (w : World) : Calls Try.prog 7 #[] w fun e w' => e = .returned (.bool true) ∧ Below w.heap.size w w' := by
  have HN := Lib.hid new_any
  have H1 := Lib.hid (fun w => one_any (c := 1) (by omega) 9 w)
  have H2 := Lib.hid (fun w => one_any (c := 2) (by omega) 9 w)
  have hok1 : (oneP 1 9).ok := oneP_ok (by omega) 9
  have hok2 : (oneP 2 9).ok := oneP_ok (by omega) 9
  have hok3 : (again (oneP 1 9) 5 7).ok := again_ok hok1 5 7
  go_enter Try.func7, Try.ntmps7
  go_wp2_with fail
  refine (HN.out _).mono ?_
  rintro e w1 ⟨g, mb, rfl, hb1, hp1⟩
  have HP1 := Lib.hid (And.intro hb1 hp1)
  clear hb1 hp1
  go_wp2_with fail
  refine (H1.out _).mono ?_
  rintro e w2 ⟨rfl, hb2⟩
  have hp2 := HP1.out.2.below hb2
  have hB2 := Nat.le_trans HP1.out.1.size hb2.size
  have hput := put_any hp2 hB2 hok1
  rw [k_put1] at hput
  have HPUT := Lib.hid hput
  have HG2 := Lib.hid (And.intro hp2 ((grown_of HP1.out.1 (some mb)).andThen' (grown_of hb2 _)))
  clear hp2 hb2 hput
  go_wp2_with fail
  refine HPUT.out.mono ?_
  rintro e w3 ⟨rfl, hp3, hg3⟩
  have HG3 := Lib.hid (And.intro hp3 (HG2.out.2.andThen' hg3))
  clear hp3 hg3
  go_wp2_with fail
  refine (H2.out _).mono ?_
  rintro e w4 ⟨rfl, hb4⟩
  have hp4 := HG3.out.1.below hb4
  have hg4 := HG3.out.2.andThen' (grown_of hb4 (some mb))
  have hput := put_any hp4 hg4.size hok2
  rw [k_put2] at hput
  have HPUT2 := Lib.hid hput
  have HG4 := Lib.hid (And.intro hp4 hg4)
  clear hp4 hg4 hput hb4
  go_wp2_with fail
  refine HPUT2.out.mono ?_
  rintro e w5 ⟨rfl, hp5, hg5⟩
  have hcame := came_any hp5 (kok_of (show 1 ≤ (1 : Int) ∧ (1 : Int) ≤ 4 by omega)) 5 7
  rw [k_came] at hcame
  have HC := Lib.hid hcame
  have HG5 := Lib.hid (HG4.out.2.andThen' hg5)
  clear hp5 hg5 hcame
  go_wp2_with fail
  refine HC.out.mono ?_
  rintro e w6 ⟨rfl, hp6, hg6⟩
  have hby := by_any hp6 9
  rw [k_by2] at hby
  have HBY := Lib.hid hby
  have HG6 := Lib.hid (And.intro hp6 (HG5.out.andThen' hg6))
  clear hp6 hg6 hby
  go_wp2_with fail
  refine HBY.out.mono ?_
  rintro e w7 ⟨rfl, hb7⟩
  have hb8 : Below w6.heap.size w6 (w7.alloc (.cells (again (oneP 1 9) 5 7).arr 37)) := hb7.trans ((show Below w7.heap.size w7 _ by go_grown).mono hb7.size)
  have hp8 := HG6.out.1.below hb8
  have hlen := len_any hp8
  rw [k_cnt] at hlen
  have HLEN := Lib.hid hlen
  have HG8 := Lib.hid (And.intro hp8 (HG6.out.2.andThen' (grown_of hb8 _)))
  clear hb7 hb8 hp8 hlen
  have a4 : (again (oneP 1 9) 5 7).arr[4]? = some (.int .i64 5) := rfl
  have a6 : (again (oneP 1 9) 5 7).arr[6]? = some (.bool true) := rfl
  go_wp2_with (first | (refine pw_put _ 5 (.tmp 19) rfl rfl rfl rfl rfl rfl (again (oneP 1 9) 5 7) hok3 rfl rfl ?_))
  refine HLEN.out.mono ?_
  rintro e w8 ⟨rfl, rfl⟩
  go_wp2_with fail
  go_ret
  exact ⟨rfl, below_of HG8.out.2 HG8.out.1.m0⟩
end Go.Proofs.Ytbhiddppohbjhaa
