/- posthouselaw25.do: the walk. -/
import Derived.Test.YtdffghaledkfeaaDo
namespace Go.Proofs.Ytdffghaledkfeaa
open Go Go.RowKit
set_option maxRecDepth 100000
def stpObj (s : Stp) : Obj := .cells #[.int .i64 s.k, .int .i64 s.i, .int .i64 s.p.f, .int .i64 s.p.t, .string s.p.d] 35
def zObj : Obj := .cells #[.int .i64 0, .int .i64 0, .string ⟨#[]⟩] 23
/-- the world at do's inner call -/
structure Ins (w W : World) (s : Stp) : Prop where
  bl : Below w.heap.size w W
  c0 : W.heap[w.heap.size]? = some (stpObj s)
  c1 : W.heap[w.heap.size + 1]? = some zObj
  c2 : W.heap[w.heap.size + 2]? = some zObj
theorem ins (w : World) (s : Stp) : Ins w (((w.alloc (stpObj s)).alloc zObj).alloc zObj) s := by
  refine ⟨by unfold stpObj zObj; go_grown, ?_, ?_, ?_⟩
  · rw [alloc_old _ _ _ (by rw [alloc_size, alloc_size]; omega), alloc_old _ _ _ (by rw [alloc_size]; omega)]
    exact heap_alloc_new w _
  · rw [alloc_old _ _ _ (by rw [alloc_size, alloc_size]; omega)]
    have := heap_alloc_new (w.alloc (stpObj s)) zObj
    rw [alloc_size] at this
    exact this
  · have := heap_alloc_new ((w.alloc (stpObj s)).alloc zObj) zObj
    rw [alloc_size, alloc_size] at this
    exact this
theorem ins_drew {w W : World} {s : Stp} (h : Ins w W s) : Ins w W.drew s := ⟨h.bl.drew, h.c0, h.c1, h.c2⟩
section
variable {w : World} {B g mb c : Nat} {v : Value} {V : Int → Value} {x : Ns}
def DoV (B g mb c : Nat) (v : Value) (V : Int → Value) (d : Did) (w : World) (e : Ending) (w' : World) : Prop :=
  e = .returned (.tuple #[.agg #[.int .i64 d.p.f, .int .i64 d.p.t, .string d.p.d], .int .i64 d.n, .bool d.b]) ∧ ∃ c' v' V', c' ≤ c + 1 ∧ Turn g mb w w' v v' V V' ∧ NA w' B g mb c' v' V' d.x
theorem ins_turn {W w2 : World} {s : Stp} {v' : Value} {V' : Int → Value} (h : NA w B g mb c v V x) (hi : Ins w W s) (hT : Turn g mb W w2 v v' V V') : Turn g mb w w2 v v' V V' ∧ (∀ q, w.heap.size ≤ q → q < w.heap.size + 3 → w2.heap[q]? = W.heap[q]? ∧ ¬ Own g mb v' V' q) := by
  have hs3 : w.heap.size + 3 ≤ W.heap.size := by
    have := heap_lt hi.c2; omega
  refine ⟨(Turn.of_below hi.bl).trans hT, fun q h1 h2 => ⟨hT.keep q (by omega) fun e => ?_, fun e => ?_⟩⟩
  · have := h.at_.own_lt e; omega
  · rcases hT.own q e with e | e
    · have := h.at_.own_lt e; omega
    · omega
theorem cell_z {w : World} {q : Nat} (h : w.heap[q]? = some zObj) : w.cell? ⟨q, 0, none⟩ = some (.int .i64 0) ∧ w.cell? ⟨q, 1, none⟩ = some (.int .i64 0) ∧ w.cell? ⟨q, 2, none⟩ = some (.string ⟨#[]⟩) :=
  ⟨by rw [row_cell h]; rfl, by rw [row_cell h]; rfl, by rw [row_cell h]; rfl⟩
theorem cell_s {w : World} {q : Nat} {s : Stp} (h : w.heap[q]? = some (stpObj s)) : w.cell? ⟨q, 0, none⟩ = some (.int .i64 s.k) ∧ w.cell? ⟨q, 1, none⟩ = some (.int .i64 s.i) ∧ w.cell? ⟨q, 2, none⟩ = some (.int .i64 s.p.f) ∧ w.cell? ⟨q, 3, none⟩ = some (.int .i64 s.p.t) ∧ w.cell? ⟨q, 4, none⟩ = some (.string s.p.d) :=
  ⟨by rw [row_cell h]; rfl, by rw [row_cell h]; rfl, by rw [row_cell h]; rfl, by rw [row_cell h]; rfl, by rw [row_cell h]; rfl⟩
/-- three cells stored far from the net -/
theorem NA.far3 {w2 : World} (h : NA w2 B g mb c v V x) {q : Nat} (hq : ¬ Own g mb v V q) (a b d : Value) : NA (((w2.setCell ⟨q, 0, none⟩ a).setCell ⟨q, 1, none⟩ b).setCell ⟨q, 2, none⟩ d) B g mb c v V x :=
  ⟨((h.at_.far hq _ _).far hq _ _).far hq _ _, h.ok⟩
theorem Turn.far3 {w2 : World} {v' : Value} {V' : Int → Value} (h : Turn g mb w w2 v v' V V') {q : Nat} (hq : w.heap.size ≤ q) (a b d : Value) : Turn g mb w (((w2.setCell ⟨q, 0, none⟩ a).setCell ⟨q, 1, none⟩ b).setCell ⟨q, 2, none⟩ d) v v' V V' :=
  ((h.far hq _ _).far hq _ _).far hq _ _
/-- what stands behind the inner call of a step -/
structure Aft (B g mb c : Nat) (v : Value) (V : Int → Value) (w w2 : World) (s : Stp) (x' : Ns) : Prop where
  h0 : w2.heap[w.heap.size]? = some (stpObj s)
  h1 : w2.heap[w.heap.size + 1]? = some zObj
  h2 : w2.heap[w.heap.size + 2]? = some zObj
  fin : ∀ a b d, ∃ c' v' V', c' ≤ c + 1 ∧ Turn g mb w (((w2.setCell ⟨w.heap.size + 1, 0, none⟩ a).setCell ⟨w.heap.size + 1, 1, none⟩ b).setCell ⟨w.heap.size + 1, 2, none⟩ d) v v' V V' ∧ NA (((w2.setCell ⟨w.heap.size + 1, 0, none⟩ a).setCell ⟨w.heap.size + 1, 1, none⟩ b).setCell ⟨w.heap.size + 1, 2, none⟩ d) B g mb c' v' V' x'
theorem aft {W w2 : World} {s : Stp} {x' : Ns} (h : NA w B g mb c v V x) (hi : Ins w W s) (hh : ∃ c' v' V', c' ≤ c + 1 ∧ Turn g mb W w2 v v' V V' ∧ NA w2 B g mb c' v' V' x') : Aft B g mb c v V w w2 s x' := by
  obtain ⟨c', v', V', hc, hT, hN⟩ := hh
  obtain ⟨k1, k2⟩ := ins_turn h hi hT
  refine ⟨(k2 _ (by omega) (by omega)).1.trans hi.c0, (k2 _ (by omega) (by omega)).1.trans hi.c1, (k2 _ (by omega) (by omega)).1.trans hi.c2, fun a b d => ⟨c', v', V', hc, k1.far3 (by omega) _ _ _, hN.far3 (k2 _ (by omega) (by omega)).2 _ _ _⟩⟩
theorem three_of {w2 : World} {q : Nat} {o : Obj} (h : w2.heap[q]? = some o) (ho : o = zObj) (a b d : Value) :
    (w2.setCell ⟨q, 0, none⟩ a).cell? ⟨q, 0, none⟩ = some a ∧ ((w2.setCell ⟨q, 0, none⟩ a).setCell ⟨q, 1, none⟩ b).cell? ⟨q, 1, none⟩ = some b ∧ (((w2.setCell ⟨q, 0, none⟩ a).setCell ⟨q, 1, none⟩ b).setCell ⟨q, 2, none⟩ d).cell? ⟨q, 2, none⟩ = some d := by
  subst ho
  have h1 := setCell_heap h 0 a
  have h2 := setCell_heap h1 1 b
  have h3 := setCell_heap h2 2 d
  exact ⟨by rw [row_cell h1]; rfl, by rw [row_cell h2]; rfl, by rw [row_cell h3]; rfl⟩

set_option maxHeartbeats 4000000 in
theorem do1 (h : NA w B g mb c v V x) (hB : B ≤ w.heap.size) (s : Stp) (hk : s.k = 1) :
    Calls Try.prog 15 #[.pointer (some ⟨g, 0, none⟩), .agg #[.int .i64 s.k, .int .i64 s.i, .int .i64 s.p.f, .int .i64 s.p.t, .string s.p.d]] w (DoV B g mb c v V (x.send s.p) w) := by
  have hin := ins_drew (ins w s)
  have hin0 := ins w s
  have HC := Lib.hid (send_na (h.below hin.bl) (Nat.le_trans hB hin.bl.size) s.p)
  have hn0 : (x.send s.p).p = zpk ∧ (x.send s.p).n = 0 := by simp only [Ns.send]; split <;> exact ⟨rfl, rfl⟩
  have HA := Lib.hid (fun w2 hh => aft (w2 := w2) (x' := (x.send s.p).x) h hin hh)
  obtain ⟨d, hd⟩ : ∃ d, d = x.send s.p := ⟨_, rfl⟩
  rw [← hd] at HC HA hn0 ⊢
  have HD := Lib.hid hn0
  have HI := Lib.hid hin
  clear h hin hin0 hd hn0
  unfold stpObj zObj at HC HA HI
  rw [hk] at HC ⊢
  rw [hk] at HA
  rw [hk] at HI
  go_enter Try.func15, Try.ntmps15
  go_wp2_with fail
  go_region_held3 (fun w' => w'.cell? ⟨w.heap.size + 1 + 1, 0, none⟩ = some (.int .i64 0) ∧ w'.cell? ⟨w.heap.size + 1 + 1, 1, none⟩ = some (.int .i64 0) ∧ w'.cell? ⟨w.heap.size + 1 + 1, 2, none⟩ = some (.string ⟨#[]⟩) ∧ w'.cell? ⟨w.heap.size, 2, none⟩ = some (.int .i64 s.p.f) ∧ w'.cell? ⟨w.heap.size, 3, none⟩ = some (.int .i64 s.p.t) ∧ w'.cell? ⟨w.heap.size, 4, none⟩ = some (.string s.p.d)) (first | exact ⟨z.1, z.2.1, z.2.2, y.2.2⟩ | exact ⟨(cell_z HI.out.c2).1, (cell_z HI.out.c2).2.1, (cell_z HI.out.c2).2.2, (cell_s HI.out.c0).2.2⟩ | go_keep)
    ((go_at_call 9; refine HC.out.mono ?_; rintro e w2 ⟨rfl, hgot⟩; have hf := HA.out w2 hgot; have z := cell_z hf.h2; have z1 := cell_z hf.h1; have y := cell_s hf.h0; have ff : ∀ o, w2.frozen? ⟨w.heap.size + 1, o, none⟩ = false := row_froz hf.h1; have HF := Lib.hid hf; clear hf))
  all_goals
    have t3 := three_of HF.out.h1 rfl (.int .i64 0) (.int .i64 0) (.string ⟨#[]⟩)
    obtain ⟨s0, s1, s2⟩ := t3
    clear hgot
    go_wp2_with fail
    (try simp only [Exit.inBlock, Exit.then])
    refine bodyPost_ret (by simp [results, Try.results15, go_sem, s0, s1, s2]; try rfl) rfl ?_
    exact ⟨by rw [HD.out.1, HD.out.2]; rfl, HF.out.fin _ _ _⟩

set_option maxHeartbeats 4000000 in
theorem do2 (h : NA w B g mb c v V x) (hB : B ≤ w.heap.size) (s : Stp) (hk : s.k = 2) (hc : c + 1 ≤ 1000000) :
    Calls Try.prog 15 #[.pointer (some ⟨g, 0, none⟩), .agg #[.int .i64 s.k, .int .i64 s.i, .int .i64 s.p.f, .int .i64 s.p.t, .string s.p.d]] w (DoV B g mb c v V (x.deliver s.i) w) := by
  have hin := ins_drew (ins w s)
  have hin0 := ins w s
  have HC := Lib.hid (deliver_na (h.below hin.bl) (Nat.le_trans hB hin.bl.size) s.i hc)
  have hn0 : (x.deliver s.i).p = zpk ∧ (x.deliver s.i).n = 0 := by simp only [Ns.deliver]; split <;> exact ⟨rfl, rfl⟩
  have HA := Lib.hid (fun w2 hh => aft (w2 := w2) (x' := (x.deliver s.i).x) h hin hh)
  obtain ⟨d, hd⟩ : ∃ d, d = x.deliver s.i := ⟨_, rfl⟩
  rw [← hd] at HC HA hn0 ⊢
  have HD := Lib.hid hn0
  have HI := Lib.hid hin
  clear h hin hin0 hd hn0
  unfold stpObj zObj at HC HA HI
  rw [hk] at HC ⊢
  rw [hk] at HA
  rw [hk] at HI
  go_enter Try.func15, Try.ntmps15
  go_wp2_with fail
  go_region_held3 (fun w' => w'.cell? ⟨w.heap.size + 1 + 1, 0, none⟩ = some (.int .i64 0) ∧ w'.cell? ⟨w.heap.size + 1 + 1, 1, none⟩ = some (.int .i64 0) ∧ w'.cell? ⟨w.heap.size + 1 + 1, 2, none⟩ = some (.string ⟨#[]⟩) ∧ w'.cell? ⟨w.heap.size, 1, none⟩ = some (.int .i64 s.i)) (first | exact ⟨z.1, z.2.1, z.2.2, y.2.1⟩ | exact ⟨(cell_z HI.out.c2).1, (cell_z HI.out.c2).2.1, (cell_z HI.out.c2).2.2, (cell_s HI.out.c0).2.1⟩ | go_keep)
    ((go_at_call 11; refine HC.out.mono ?_; rintro e w2 ⟨rfl, hgot⟩; have hf := HA.out w2 hgot; have z := cell_z hf.h2; have z1 := cell_z hf.h1; have y := cell_s hf.h0; have ff : ∀ o, w2.frozen? ⟨w.heap.size + 1, o, none⟩ = false := row_froz hf.h1; have HF := Lib.hid hf; clear hf))
  all_goals
    have t3 := three_of HF.out.h1 rfl (.int .i64 0) (.int .i64 0) (.string ⟨#[]⟩)
    obtain ⟨s0, s1, s2⟩ := t3
    clear hgot
    go_wp2_with fail
    (try simp only [Exit.inBlock, Exit.then])
    refine bodyPost_ret (by simp [results, Try.results15, go_sem, s0, s1, s2]; try rfl) rfl ?_
    exact ⟨by rw [HD.out.1, HD.out.2]; rfl, HF.out.fin _ _ _⟩

set_option maxHeartbeats 4000000 in
theorem do3 (h : NA w B g mb c v V x) (hB : B ≤ w.heap.size) (s : Stp) (hk : s.k = 3) :
    Calls Try.prog 15 #[.pointer (some ⟨g, 0, none⟩), .agg #[.int .i64 s.k, .int .i64 s.i, .int .i64 s.p.f, .int .i64 s.p.t, .string s.p.d]] w (DoV B g mb c v V (x.drop s.i) w) := by
  have hin := ins_drew (ins w s)
  have hin0 := ins w s
  have HC := Lib.hid (drop_na (h.below hin.bl) s.i)
  have hn0 : (x.drop s.i).p = zpk ∧ (x.drop s.i).n = 0 := by simp only [Ns.drop]; split <;> exact ⟨rfl, rfl⟩
  have HA := Lib.hid (fun w2 hh => aft (w2 := w2) (x' := (x.drop s.i).x) h hin hh)
  obtain ⟨d, hd⟩ : ∃ d, d = x.drop s.i := ⟨_, rfl⟩
  rw [← hd] at HC HA hn0 ⊢
  have HD := Lib.hid hn0
  have HI := Lib.hid hin
  clear h hin hin0 hd hn0
  unfold stpObj zObj at HC HA HI
  rw [hk] at HC ⊢
  rw [hk] at HA
  rw [hk] at HI
  go_enter Try.func15, Try.ntmps15
  go_wp2_with fail
  go_region_held3 (fun w' => w'.cell? ⟨w.heap.size + 1 + 1, 0, none⟩ = some (.int .i64 0) ∧ w'.cell? ⟨w.heap.size + 1 + 1, 1, none⟩ = some (.int .i64 0) ∧ w'.cell? ⟨w.heap.size + 1 + 1, 2, none⟩ = some (.string ⟨#[]⟩) ∧ w'.cell? ⟨w.heap.size, 1, none⟩ = some (.int .i64 s.i)) (first | exact ⟨z.1, z.2.1, z.2.2, y.2.1⟩ | exact ⟨(cell_z HI.out.c2).1, (cell_z HI.out.c2).2.1, (cell_z HI.out.c2).2.2, (cell_s HI.out.c0).2.1⟩ | go_keep)
    ((go_at_call 25; refine HC.out.mono ?_; rintro e w2 ⟨rfl, hgot⟩; have hf := HA.out w2 hgot; have z := cell_z hf.h2; have z1 := cell_z hf.h1; have y := cell_s hf.h0; have ff : ∀ o, w2.frozen? ⟨w.heap.size + 1, o, none⟩ = false := row_froz hf.h1; have HF := Lib.hid hf; clear hf))
  all_goals
    have t3 := three_of HF.out.h1 rfl (.int .i64 0) (.int .i64 0) (.string ⟨#[]⟩)
    obtain ⟨s0, s1, s2⟩ := t3
    clear hgot
    go_wp2_with fail
    (try simp only [Exit.inBlock, Exit.then])
    refine bodyPost_ret (by simp [results, Try.results15, go_sem, s0, s1, s2]; try rfl) rfl ?_
    exact ⟨by rw [HD.out.1, HD.out.2]; rfl, HF.out.fin _ _ _⟩

set_option maxHeartbeats 4000000 in
theorem do4 (h : NA w B g mb c v V x) (hB : B ≤ w.heap.size) (s : Stp) (hk : s.k = 4) :
    Calls Try.prog 15 #[.pointer (some ⟨g, 0, none⟩), .agg #[.int .i64 s.k, .int .i64 s.i, .int .i64 s.p.f, .int .i64 s.p.t, .string s.p.d]] w (DoV B g mb c v V (x.twice s.i) w) := by
  have hin := ins_drew (ins w s)
  have hin0 := ins w s
  have HC := Lib.hid (twice_na (h.below hin.bl) (Nat.le_trans hB hin.bl.size) s.i)
  have hn0 : (x.twice s.i).p = zpk ∧ (x.twice s.i).n = 0 := by simp only [Ns.twice, Ns.send]; split <;> (try split) <;> exact ⟨rfl, rfl⟩
  have HA := Lib.hid (fun w2 hh => aft (w2 := w2) (x' := (x.twice s.i).x) h hin hh)
  obtain ⟨d, hd⟩ : ∃ d, d = x.twice s.i := ⟨_, rfl⟩
  rw [← hd] at HC HA hn0 ⊢
  have HD := Lib.hid hn0
  have HI := Lib.hid hin
  clear h hin hin0 hd hn0
  unfold stpObj zObj at HC HA HI
  rw [hk] at HC ⊢
  rw [hk] at HA
  rw [hk] at HI
  go_enter Try.func15, Try.ntmps15
  go_wp2_with fail
  go_region_held3 (fun w' => w'.cell? ⟨w.heap.size + 1 + 1, 0, none⟩ = some (.int .i64 0) ∧ w'.cell? ⟨w.heap.size + 1 + 1, 1, none⟩ = some (.int .i64 0) ∧ w'.cell? ⟨w.heap.size + 1 + 1, 2, none⟩ = some (.string ⟨#[]⟩) ∧ w'.cell? ⟨w.heap.size, 1, none⟩ = some (.int .i64 s.i)) (first | exact ⟨z.1, z.2.1, z.2.2, y.2.1⟩ | exact ⟨(cell_z HI.out.c2).1, (cell_z HI.out.c2).2.1, (cell_z HI.out.c2).2.2, (cell_s HI.out.c0).2.1⟩ | go_keep)
    ((go_at_call 27; refine HC.out.mono ?_; rintro e w2 ⟨rfl, hgot⟩; have hf := HA.out w2 hgot; have z := cell_z hf.h2; have z1 := cell_z hf.h1; have y := cell_s hf.h0; have ff : ∀ o, w2.frozen? ⟨w.heap.size + 1, o, none⟩ = false := row_froz hf.h1; have HF := Lib.hid hf; clear hf))
  all_goals
    have t3 := three_of HF.out.h1 rfl (.int .i64 0) (.int .i64 0) (.string ⟨#[]⟩)
    obtain ⟨s0, s1, s2⟩ := t3
    clear hgot
    go_wp2_with fail
    (try simp only [Exit.inBlock, Exit.then])
    refine bodyPost_ret (by simp [results, Try.results15, go_sem, s0, s1, s2]; try rfl) rfl ?_
    exact ⟨by rw [HD.out.1, HD.out.2]; rfl, HF.out.fin _ _ _⟩

set_option maxHeartbeats 4000000 in
theorem do5 (h : NA w B g mb c v V x) (hB : B ≤ w.heap.size) (s : Stp) (hk : s.k = 5) (hc : c + 1 ≤ 1000000) (hi : kok s.i) :
    Calls Try.prog 15 #[.pointer (some ⟨g, 0, none⟩), .agg #[.int .i64 s.k, .int .i64 s.i, .int .i64 s.p.f, .int .i64 s.p.t, .string s.p.d]] w (DoV B g mb c v V (x.next s.i) w) := by
  have hin := ins_drew (ins w s)
  have hin0 := ins w s
  have HC := Lib.hid (next_na (h.below hin0.bl) hi hc)
  have hn0 : (x.next s.i).n = 0 := by simp only [Ns.next]; split <;> rfl
  have HA := Lib.hid (fun w2 hh => aft (w2 := w2) (x' := (x.next s.i).x) h hin0 hh)
  obtain ⟨d, hd⟩ : ∃ d, d = x.next s.i := ⟨_, rfl⟩
  rw [← hd] at HC HA hn0 ⊢
  have HD := Lib.hid hn0
  have HI := Lib.hid hin
  clear h hin hin0 hd hn0
  unfold stpObj zObj at HC HA HI
  rw [hk] at HC ⊢
  rw [hk] at HA
  rw [hk] at HI
  go_enter Try.func15, Try.ntmps15
  go_wp2_with fail
  refine HC.out.mono ?_
  rintro e w2 ⟨rfl, c', v', V', hc', hT, hN⟩
  have h02 := HA.out w2 ⟨c', v', V', hc', hT, hN⟩
  have z1 := cell_z h02.h1
  have ff : ∀ o, w2.frozen? ⟨w.heap.size + 1, o, none⟩ = false := row_froz h02.h1
  have hl : w.heap.size + 1 < w2.heap.size := heap_lt h02.h1
  have hl2 : ¬ w.heap.size + 1 = w2.heap.size := by omega
  have h3 := put3 h02.h1 (.int .i64 d.p.f) (.int .i64 d.p.t) (.string d.p.d)
  obtain ⟨c9, v9, V9, hc9, hT9, hN9⟩ := h02.fin (.int .i64 d.p.f) (.int .i64 d.p.t) (.string d.p.d)
  generalize hX : (((w2.setCell ⟨w.heap.size + 1, 0, none⟩ (.int .i64 d.p.f)).setCell ⟨w.heap.size + 1, 1, none⟩ (.int .i64 d.p.t)).setCell ⟨w.heap.size + 1, 2, none⟩ (.string d.p.d)) = X at *
  have h4 := (alloc_old X (.cells #[.int .i64 d.p.f, .int .i64 d.p.t, .string d.p.d] 23) _ (heap_lt h3)).trans h3
  have u0 : (X.alloc (.cells #[.int .i64 d.p.f, .int .i64 d.p.t, .string d.p.d] 23)).cell? ⟨w.heap.size + 1, 0, none⟩ = some (.int .i64 d.p.f) := by rw [row_cell h4]; rfl
  have u1 : (X.alloc (.cells #[.int .i64 d.p.f, .int .i64 d.p.t, .string d.p.d] 23)).cell? ⟨w.heap.size + 1, 1, none⟩ = some (.int .i64 d.p.t) := by rw [row_cell h4]; rfl
  have u2 : (X.alloc (.cells #[.int .i64 d.p.f, .int .i64 d.p.t, .string d.p.d] 23)).cell? ⟨w.heap.size + 1, 2, none⟩ = some (.string d.p.d) := by rw [row_cell h4]; rfl
  have HF := Lib.hid (And.intro hc9 (And.intro (hT9.trans (Turn.of_below (show Below X.heap.size X (X.alloc (.cells #[.int .i64 d.p.f, .int .i64 d.p.t, .string d.p.d] 23)) by go_grown))) (hN9.below (show Below X.heap.size X (X.alloc (.cells #[.int .i64 d.p.f, .int .i64 d.p.t, .string d.p.d] 23)) by go_grown))))
  have HXX := Lib.hid hX
  clear h02 hT hN h3 h4 hT9 hN9 hX
  go_wp2_with fail
  (try simp only [Exit.inBlock, Exit.then])
  rw [HXX.out]
  refine bodyPost_ret (by simp [results, Try.results15, go_sem, u0, u1, u2]; try rfl) rfl ?_
  exact ⟨by rw [HD.out], c9, v9, V9, HF.out.1, HF.out.2.1, HF.out.2.2⟩

set_option maxHeartbeats 4000000 in
theorem do6 (h : NA w B g mb c v V x) (hB : B ≤ w.heap.size) (s : Stp) (hk : s.k = 6) (hc : c + 1 ≤ 1000000) (hi : kok s.i) :
    Calls Try.prog 15 #[.pointer (some ⟨g, 0, none⟩), .agg #[.int .i64 s.k, .int .i64 s.i, .int .i64 s.p.f, .int .i64 s.p.t, .string s.p.d]] w (DoV B g mb c v V (x.clear s.i) w) := by
  have hin := ins_drew (ins w s)
  have hin0 := ins w s
  have HC := Lib.hid (clear_na (h.below hin0.bl) hi hc)
  have hn0 : (x.clear s.i).p = zpk ∧ decide (0 < (x.clear s.i).n) = (x.clear s.i).b := by simp only [Ns.clear]; split <;> rename_i h0 <;> first | exact ⟨rfl, by simp only []; exact decide_eq_true (by omega)⟩ | exact ⟨rfl, rfl⟩
  have HA := Lib.hid (fun w2 hh => aft (w2 := w2) (x' := (x.clear s.i).x) h hin0 hh)
  obtain ⟨d, hd⟩ : ∃ d, d = x.clear s.i := ⟨_, rfl⟩
  rw [← hd] at HC HA hn0 ⊢
  have HD := Lib.hid hn0
  have HI := Lib.hid hin
  clear h hin hin0 hd hn0
  unfold stpObj zObj at HC HA HI
  rw [hk] at HC ⊢
  rw [hk] at HA
  rw [hk] at HI
  go_enter Try.func15, Try.ntmps15
  go_wp2_with fail
  refine HC.out.mono ?_
  rintro e w2 ⟨rfl, hgot⟩
  have hf := HA.out w2 hgot
  have z := cell_z hf.h2
  have z1 := cell_z hf.h1
  have ff : ∀ o, w2.frozen? ⟨w.heap.size + 1, o, none⟩ = false := row_froz hf.h1
  have HF := Lib.hid hf
  clear hf hgot
  have t3 := three_of HF.out.h1 rfl (.int .i64 0) (.int .i64 0) (.string ⟨#[]⟩)
  obtain ⟨s0, s1, s2⟩ := t3
  go_wp2_with fail
  (try simp only [Exit.inBlock, Exit.then])
  refine bodyPost_ret (by simp [results, Try.results15, go_sem, s0, s1, s2]; try rfl) rfl ?_
  exact ⟨by rw [HD.out.1, ← HD.out.2]; rfl, HF.out.fin _ _ _⟩

set_option maxHeartbeats 4000000 in
theorem do0 (h : NA w B g mb c v V x) (s : Stp) (h1 : s.k ≠ 1) (h2 : s.k ≠ 2) (h3 : s.k ≠ 3) (h4 : s.k ≠ 4) (h5 : s.k ≠ 5) (h6 : s.k ≠ 6) :
    Calls Try.prog 15 #[.pointer (some ⟨g, 0, none⟩), .agg #[.int .i64 s.k, .int .i64 s.i, .int .i64 s.p.f, .int .i64 s.p.t, .string s.p.d]] w (DoV B g mb c v V x.no w) := by
  have hin := ins w s
  have HF := Lib.hid h
  clear hin h
  go_enter Try.func15, Try.ntmps15
  go_wp2_with fail
  go_returns
  exact ⟨rfl, c, v, V, Nat.le_succ _, Turn.of_below (by go_grown), HF.out.below (by go_grown)⟩
theorem do_any (h : NA w B g mb c v V x) (hB : B ≤ w.heap.size) (s : Stp) (hi : kok s.i) (hc : c + 1 ≤ 1000000) :
    Calls Try.prog 15 #[.pointer (some ⟨g, 0, none⟩), .agg #[.int .i64 s.k, .int .i64 s.i, .int .i64 s.p.f, .int .i64 s.p.t, .string s.p.d]] w (DoV B g mb c v V (x.step s) w) := by
  unfold Ns.step
  split
  · exact do1 h hB s ‹_›
  · split
    · exact do2 h hB s ‹_› hc
    · split
      · exact do3 h hB s ‹_›
      · split
        · exact do4 h hB s ‹_›
        · split
          · exact do5 h hB s ‹_› hc hi
          · split
            · exact do6 h hB s ‹_› hc hi
            · exact do0 h s ‹_› ‹_› ‹_› ‹_› ‹_› ‹_›
end
end Go.Proofs.Ytdffghaledkfeaa
