/- posthouselaw26: do, one, known; a step's 38 cells. -/
import Derived.Test.YtbhiddppohbjhaaEq
namespace Go.Proofs.Ytbhiddppohbjhaa
open Go Go.RowKit Go.Maps Go.WideShapes Go.ChangeMaps Go.WideMaps Go.MapKept
set_option maxRecDepth 100000
structure St where
  k : Int
  c : Int
  n : Int
  m : Int
  p : Pd
def St.cells (s : St) : List Value := .int .i64 s.k :: .int .i64 s.c :: .int .i64 s.n :: .int .i64 s.m :: s.p.cells
def St.arr (s : St) : Array Value := s.cells.toArray
structure St.ok (s : St) : Prop where
  p : s.p.ok
  c : kok s.c
  n : kok s.n
theorem St.len {s : St} (h : s.ok) : s.cells.length = 38 := by
  have := Pd.len h.p
  simp [St.cells, this]
theorem St.size {s : St} (h : s.ok) : s.arr.size = 38 := by unfold St.arr; simpa using St.len h
theorem size44 : (Try.prog.info? 44).map (·.size) = some 38 := by kernel_rfl
/-- what a step makes of a table -/
noncomputable def doM (M : Tb) (s : St) : Tb × Bool := if s.k = 1 then putM M s.p else if s.k = 2 then dropM M s.c else if s.k = 3 then cameM M s.c s.n s.m else if s.k = 4 then laterM M s.c s.n else (M, false)
theorem doM_ok {M : Tb} (h : Tok M) {s : St} (hs : s.ok) : Tok (doM M s).1 := by
  unfold doM
  split
  · exact putM_ok h hs.p
  · split
    · exact dropM_ok h _
    · split
      · exact cameM_ok h _ _ _
      · split
        · exact laterM_ok h _ _ hs.n
        · exact h
section
variable {w : World} {ops : Array Oper} {rest : List Oper} {o : Oper} {a : Act} {Q : Exit → Act → World → Prop}
/-- a whole call loaded out of the middle of a block -/
theorem pw_load_mid (hgd : o.guard = none) (x : Operand) (ho : o.op = .load 37 x) (b q : Nat) (hx : a.eval x = .pointer (some ⟨b, q, none⟩)) (p : Pd) (hp : p.ok) (hb : w.rangeAt b q p.cells)
    (h : wpList Try.prog ops Q rest (a.put o.dst (.agg p.arr)) w) : wpList Try.prog ops Q (o :: rest) a w :=
  wpList_load_mid hgd 37 x ho b q hx p.cells _ hb Try.underlying37 rfl (by rw [Pd.len hp]; exact size37) h
end
theorem St.range {s : St} {w : World} {b : Nat} (hb : w.heap[b]? = some (.cells s.arr 44)) : w.rangeAt b 4 s.p.cells := fun j v hj => by
  rw [row_cell hb, Nat.add_comm]
  show s.cells.toArray[j + 4]? = some v
  rw [List.getElem?_toArray]
  exact hj
theorem drop_nil (c : Int) (w : World) : Calls Try.prog 25 #[.pointer none, .int .i64 c] w (StayB w) := by
  have H1 := Lib.hid (of_nil c w)
  go_enter Try.func25, Try.ntmps25
  go_wp2_with fail
  refine H1.out.mono ?_
  rintro e w1 ⟨rfl, hb⟩
  have HB := Lib.hid hb
  clear hb
  go_wp2_with (first | (refine pw_put _ 5 (.tmp 11) rfl rfl rfl rfl rfl rfl zP zP_ok rfl rfl ?_))
  go_ret
  exact ⟨rfl, HB.out.trans ((show Below w1.heap.size w1 (w1.alloc (.cells zP.arr 37)) by go_grown).mono HB.out.size)⟩
theorem came_nil (c f x : Int) (w : World) : Calls Try.prog 23 #[.pointer none, .int .i64 c, .int .i64 f, .int .i64 x] w (StayB w) := by
  have H1 := Lib.hid (of_nil c w)
  go_enter Try.func23, Try.ntmps23
  go_wp2_with fail
  refine H1.out.mono ?_
  rintro e w1 ⟨rfl, hb⟩
  have HB := Lib.hid hb
  clear hb
  go_wp2_with (first | (refine pw_put _ 9 (.tmp 15) rfl rfl rfl rfl rfl rfl zP zP_ok rfl rfl ?_))
  go_ret
  exact ⟨rfl, HB.out.trans ((show Below w1.heap.size w1 (w1.alloc (.cells zP.arr 37)) by go_grown).mono HB.out.size)⟩
theorem later_nil (c d : Int) (w : World) : Calls Try.prog 26 #[.pointer none, .int .i64 c, .int .i64 d] w (StayB w) := by
  have H1 := Lib.hid (of_nil c w)
  go_enter Try.func26, Try.ntmps26
  go_wp2_with fail
  refine H1.out.mono ?_
  rintro e w1 ⟨rfl, hb⟩
  have HB := Lib.hid hb
  clear hb
  go_wp2_with (first | (refine pw_put _ 7 (.tmp 13) rfl rfl rfl rfl rfl rfl zP zP_ok rfl rfl ?_))
  go_ret
  exact ⟨rfl, HB.out.trans ((show Below w1.heap.size w1 (w1.alloc (.cells zP.arr 37)) by go_grown).mono HB.out.size)⟩
/-! ### do -/
set_option maxHeartbeats 4000000 in
theorem do1 {w : World} {B g mb : Nat} {M : Tb} (h : PA w B g mb M) (hB : B ≤ w.heap.size) {s : St} (hs : s.ok) (hk : s.k = 1) : Calls Try.prog 10 #[.pointer (some ⟨g, 0, none⟩), .agg s.arr] w (DidT B g mb (putM M s.p) w) := by
  have hb1 : Below w.heap.size w (w.alloc (.cells s.arr 44)) := by go_grown
  have h1 := h.below hb1
  have H1 := Lib.hid (put_any h1 (Nat.le_trans hB hb1.size) hs.p)
  have a0 : s.arr[0]? = some (.int .i64 s.k) := rfl
  rw [hk] at a0
  have HB1 := Lib.hid hb1
  have HP := Lib.hid h1
  have HPS := Lib.hid hs.p
  clear hb1 hs h h1 hk
  go_enter Try.func10, Try.ntmps10
  go_wp2_with (first | (refine pw_load_mid rfl (.tmp 10) rfl w.heap.size 4 rfl s.p HPS.out (St.range (heap_alloc_new _ _)) ?_))
  refine H1.out.mono ?_
  rintro e w1 ⟨rfl, hp, hg⟩
  have HF := Lib.hid (And.intro hp ((grown_of HB1.out (some mb)).andThen' hg))
  clear hp hg
  go_wp2_with fail
  go_ret
  exact ⟨rfl, HF.out.1, HF.out.2⟩
set_option maxHeartbeats 4000000 in
theorem dn1 (w : World) {s : St} (hs : s.ok) (hk : s.k = 1) : Calls Try.prog 10 #[.pointer none, .agg s.arr] w (StayB w) := by
  have hb1 : Below w.heap.size w (w.alloc (.cells s.arr 44)) := by go_grown
  have H1 := Lib.hid (put_nil (p := s.p) (w.alloc (.cells s.arr 44)))
  have a0 : s.arr[0]? = some (.int .i64 s.k) := rfl
  rw [hk] at a0
  have HB1 := Lib.hid hb1
  have HPS := Lib.hid hs.p
  clear hb1 hs hk
  go_enter Try.func10, Try.ntmps10
  go_wp2_with (first | (refine pw_load_mid rfl (.tmp 10) rfl w.heap.size 4 rfl s.p HPS.out (St.range (heap_alloc_new _ _)) ?_))
  refine H1.out.mono ?_
  rintro e w1 ⟨rfl, hb⟩
  have HF := Lib.hid (HB1.out.trans (hb.mono HB1.out.size))
  clear hb
  go_wp2_with fail
  go_ret
  exact ⟨rfl, HF.out⟩
set_option maxHeartbeats 4000000 in
theorem do2 {w : World} {B g mb : Nat} {M : Tb} (h : PA w B g mb M) (hB : B ≤ w.heap.size) {s : St} (hs : s.ok) (hk : s.k = 2) : Calls Try.prog 10 #[.pointer (some ⟨g, 0, none⟩), .agg s.arr] w (DidT B g mb (dropM M s.c) w) := by
  have hb1 : Below w.heap.size w (w.alloc (.cells s.arr 44)) := by go_grown
  have h1 := h.below hb1
  have H1 := Lib.hid (drop_any h1 hs.c)
  have a0 : s.arr[0]? = some (.int .i64 s.k) := rfl
  rw [hk] at a0
  have a1 : s.arr[1]? = some (.int .i64 s.c) := rfl
  have HB1 := Lib.hid hb1
  have HP := Lib.hid h1
  have HPS := Lib.hid hs.p
  clear hb1 hs h h1 hk
  go_enter Try.func10, Try.ntmps10
  go_wp2_with fail
  refine H1.out.mono ?_
  rintro e w1 ⟨rfl, hp, hg⟩
  have HF := Lib.hid (And.intro hp ((grown_of HB1.out (some mb)).andThen' hg))
  clear hp hg
  go_wp2_with fail
  go_ret
  exact ⟨rfl, HF.out.1, HF.out.2⟩
set_option maxHeartbeats 4000000 in
theorem dn2 (w : World) {s : St} (hs : s.ok) (hk : s.k = 2) : Calls Try.prog 10 #[.pointer none, .agg s.arr] w (StayB w) := by
  have hb1 : Below w.heap.size w (w.alloc (.cells s.arr 44)) := by go_grown
  have H1 := Lib.hid (drop_nil s.c (w.alloc (.cells s.arr 44)))
  have a0 : s.arr[0]? = some (.int .i64 s.k) := rfl
  rw [hk] at a0
  have a1 : s.arr[1]? = some (.int .i64 s.c) := rfl
  have HB1 := Lib.hid hb1
  have HPS := Lib.hid hs.p
  clear hb1 hs hk
  go_enter Try.func10, Try.ntmps10
  go_wp2_with fail
  refine H1.out.mono ?_
  rintro e w1 ⟨rfl, hb⟩
  have HF := Lib.hid (HB1.out.trans (hb.mono HB1.out.size))
  clear hb
  go_wp2_with fail
  go_ret
  exact ⟨rfl, HF.out⟩
set_option maxHeartbeats 4000000 in
theorem do3 {w : World} {B g mb : Nat} {M : Tb} (h : PA w B g mb M) (hB : B ≤ w.heap.size) {s : St} (hs : s.ok) (hk : s.k = 3) : Calls Try.prog 10 #[.pointer (some ⟨g, 0, none⟩), .agg s.arr] w (DidT B g mb (cameM M s.c s.n s.m) w) := by
  have hb1 : Below w.heap.size w (w.alloc (.cells s.arr 44)) := by go_grown
  have h1 := h.below hb1
  have H1 := Lib.hid (came_any h1 hs.c s.n s.m)
  have a0 : s.arr[0]? = some (.int .i64 s.k) := rfl
  rw [hk] at a0
  have a1 : s.arr[1]? = some (.int .i64 s.c) := rfl
  have a2 : s.arr[2]? = some (.int .i64 s.n) := rfl
  have a3 : s.arr[3]? = some (.int .i64 s.m) := rfl
  have HB1 := Lib.hid hb1
  have HP := Lib.hid h1
  have HPS := Lib.hid hs.p
  clear hb1 hs h h1 hk
  go_enter Try.func10, Try.ntmps10
  go_wp2_with fail
  refine H1.out.mono ?_
  rintro e w1 ⟨rfl, hp, hg⟩
  have HF := Lib.hid (And.intro hp ((grown_of HB1.out (some mb)).andThen' hg))
  clear hp hg
  go_wp2_with fail
  go_ret
  exact ⟨rfl, HF.out.1, HF.out.2⟩
set_option maxHeartbeats 4000000 in
theorem dn3 (w : World) {s : St} (hs : s.ok) (hk : s.k = 3) : Calls Try.prog 10 #[.pointer none, .agg s.arr] w (StayB w) := by
  have hb1 : Below w.heap.size w (w.alloc (.cells s.arr 44)) := by go_grown
  have H1 := Lib.hid (came_nil s.c s.n s.m (w.alloc (.cells s.arr 44)))
  have a0 : s.arr[0]? = some (.int .i64 s.k) := rfl
  rw [hk] at a0
  have a1 : s.arr[1]? = some (.int .i64 s.c) := rfl
  have a2 : s.arr[2]? = some (.int .i64 s.n) := rfl
  have a3 : s.arr[3]? = some (.int .i64 s.m) := rfl
  have HB1 := Lib.hid hb1
  have HPS := Lib.hid hs.p
  clear hb1 hs hk
  go_enter Try.func10, Try.ntmps10
  go_wp2_with fail
  refine H1.out.mono ?_
  rintro e w1 ⟨rfl, hb⟩
  have HF := Lib.hid (HB1.out.trans (hb.mono HB1.out.size))
  clear hb
  go_wp2_with fail
  go_ret
  exact ⟨rfl, HF.out⟩
set_option maxHeartbeats 4000000 in
theorem do4 {w : World} {B g mb : Nat} {M : Tb} (h : PA w B g mb M) (hB : B ≤ w.heap.size) {s : St} (hs : s.ok) (hk : s.k = 4) : Calls Try.prog 10 #[.pointer (some ⟨g, 0, none⟩), .agg s.arr] w (DidT B g mb (laterM M s.c s.n) w) := by
  have hb1 : Below w.heap.size w (w.alloc (.cells s.arr 44)) := by go_grown
  have h1 := h.below hb1
  have H1 := Lib.hid (later_any h1 hs.c s.n hs.n)
  have a0 : s.arr[0]? = some (.int .i64 s.k) := rfl
  rw [hk] at a0
  have a1 : s.arr[1]? = some (.int .i64 s.c) := rfl
  have a2 : s.arr[2]? = some (.int .i64 s.n) := rfl
  have HB1 := Lib.hid hb1
  have HP := Lib.hid h1
  have HPS := Lib.hid hs.p
  clear hb1 hs h h1 hk
  go_enter Try.func10, Try.ntmps10
  go_wp2_with fail
  refine H1.out.mono ?_
  rintro e w1 ⟨rfl, hp, hg⟩
  have HF := Lib.hid (And.intro hp ((grown_of HB1.out (some mb)).andThen' hg))
  clear hp hg
  go_wp2_with fail
  go_ret
  exact ⟨rfl, HF.out.1, HF.out.2⟩
set_option maxHeartbeats 4000000 in
theorem dn4 (w : World) {s : St} (hs : s.ok) (hk : s.k = 4) : Calls Try.prog 10 #[.pointer none, .agg s.arr] w (StayB w) := by
  have hb1 : Below w.heap.size w (w.alloc (.cells s.arr 44)) := by go_grown
  have H1 := Lib.hid (later_nil s.c s.n (w.alloc (.cells s.arr 44)))
  have a0 : s.arr[0]? = some (.int .i64 s.k) := rfl
  rw [hk] at a0
  have a1 : s.arr[1]? = some (.int .i64 s.c) := rfl
  have a2 : s.arr[2]? = some (.int .i64 s.n) := rfl
  have HB1 := Lib.hid hb1
  have HPS := Lib.hid hs.p
  clear hb1 hs hk
  go_enter Try.func10, Try.ntmps10
  go_wp2_with fail
  refine H1.out.mono ?_
  rintro e w1 ⟨rfl, hb⟩
  have HF := Lib.hid (HB1.out.trans (hb.mono HB1.out.size))
  clear hb
  go_wp2_with fail
  go_ret
  exact ⟨rfl, HF.out⟩
set_option maxHeartbeats 4000000 in
theorem do0 {w : World} {B g mb : Nat} {M : Tb} (h : PA w B g mb M) (hB : B ≤ w.heap.size) {s : St} (hs : s.ok) (h1 : s.k ≠ 1) (h2 : s.k ≠ 2) (h3 : s.k ≠ 3) (h4 : s.k ≠ 4) : Calls Try.prog 10 #[.pointer (some ⟨g, 0, none⟩), .agg s.arr] w (DidT B g mb (M, false) w) := by
  have hb1 : Below w.heap.size w (w.alloc (.cells s.arr 44)) := by go_grown
  have hp1 := h.below hb1
  have a0 : s.arr[0]? = some (.int .i64 s.k) := rfl
  have e1 : (s.k == 1) = false := by simp [h1]
  have e2 : (s.k == 2) = false := by simp [h2]
  have e3 : (s.k == 3) = false := by simp [h3]
  have e4 : (s.k == 4) = false := by simp [h4]
  have HB1 := Lib.hid hb1
  have HP := Lib.hid hp1
  have HPS := Lib.hid hs.p
  clear hb1 hs h hp1 h1 h2 h3 h4
  go_enter Try.func10, Try.ntmps10
  go_wp2_with fail
  go_ret
  exact ⟨rfl, HP.out, grown_of HB1.out _⟩
set_option maxHeartbeats 4000000 in
theorem dn0 (w : World) {s : St} (hs : s.ok) (h1 : s.k ≠ 1) (h2 : s.k ≠ 2) (h3 : s.k ≠ 3) (h4 : s.k ≠ 4) : Calls Try.prog 10 #[.pointer none, .agg s.arr] w (StayB w) := by
  have hb1 : Below w.heap.size w (w.alloc (.cells s.arr 44)) := by go_grown
  have a0 : s.arr[0]? = some (.int .i64 s.k) := rfl
  have e1 : (s.k == 1) = false := by simp [h1]
  have e2 : (s.k == 2) = false := by simp [h2]
  have e3 : (s.k == 3) = false := by simp [h3]
  have e4 : (s.k == 4) = false := by simp [h4]
  have HB1 := Lib.hid hb1
  have HPS := Lib.hid hs.p
  clear hb1 hs h1 h2 h3 h4
  go_enter Try.func10, Try.ntmps10
  go_wp2_with fail
  go_ret
  exact ⟨rfl, HB1.out⟩
theorem do_any {w : World} {B g mb : Nat} {M : Tb} (h : PA w B g mb M) (hB : B ≤ w.heap.size) {s : St} (hs : s.ok) : Calls Try.prog 10 #[.pointer (some ⟨g, 0, none⟩), .agg s.arr] w (DidT B g mb (doM M s) w) := by
  unfold doM
  split
  · exact do1 h hB hs ‹_›
  · split
    · exact do2 h hB hs ‹_›
    · split
      · exact do3 h hB hs ‹_›
      · split
        · exact do4 h hB hs ‹_›
        · exact do0 h hB hs ‹_› ‹_› ‹_› ‹_›
theorem do_nil {s : St} (hs : s.ok) (w : World) : Calls Try.prog 10 #[.pointer none, .agg s.arr] w (StayB w) := by
  by_cases h1 : s.k = 1
  · exact dn1 w hs h1
  · by_cases h2 : s.k = 2
    · exact dn2 w hs h2
    · by_cases h3 : s.k = 3
      · exact dn3 w hs h3
      · by_cases h4 : s.k = 4
        · exact dn4 w hs h4
        · exact dn0 w hs h1 h2 h3 h4
end Go.Proofs.Ytbhiddppohbjhaa
