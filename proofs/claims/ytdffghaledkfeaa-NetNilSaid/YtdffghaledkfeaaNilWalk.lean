/- NetNil: of no net there is nothing. -/
import Derived.Test.YtdffghaledkfeaaDoWalk
import Derived.Test.YtdffghaledkfeaaKnown
namespace Go.Proofs.Ytdffghaledkfeaa
open Go Go.RowKit
set_option maxRecDepth 100000
theorem there_nil (i : Int) (w : World) : Calls Try.prog 24 #[.pointer none, .int .i64 i] w fun e w' => e = .returned (.bool false) ∧ w = w' := by
  go_enter Try.func24, Try.ntmps24
  go_wp2
  go_returns
  exact ⟨rfl, rfl⟩
theorem send_nil (p : Pk) (w : World) : Calls Try.prog 9 #[.pointer none, .agg #[.int .i64 p.f, .int .i64 p.t, .string p.d]] w fun e w' => e = .returned (.bool false) ∧ Below w.heap.size w w' := by
  go_enter Try.func9, Try.ntmps9
  go_wp2
  go_returns
  exact ⟨rfl, by go_grown⟩
theorem deliver_nil (i : Int) (w : World) : Calls Try.prog 11 #[.pointer none, .int .i64 i] w fun e w' => e = .returned (.bool false) ∧ Below w.heap.size w w' := by
  have H := Lib.hid (there_nil i)
  go_enter Try.func11, Try.ntmps11
  go_wp2_with fail
  refine (H.out _).mono ?_
  rintro e w' ⟨rfl, rfl⟩
  go_wp2_with fail
  go_returns
  exact ⟨rfl, Below.refl _ _⟩
theorem drop_nil (i : Int) (w : World) : Calls Try.prog 25 #[.pointer none, .int .i64 i] w fun e w' => e = .returned (.bool false) ∧ Below w.heap.size w w' := by
  have H := Lib.hid (there_nil i)
  go_enter Try.func25, Try.ntmps25
  go_wp2_with fail
  refine (H.out _).mono ?_
  rintro e w' ⟨rfl, rfl⟩
  go_wp2_with fail
  go_returns
  exact ⟨rfl, Below.refl _ _⟩
theorem twice_nil (i : Int) (w : World) : Calls Try.prog 27 #[.pointer none, .int .i64 i] w fun e w' => e = .returned (.bool false) ∧ Below w.heap.size w w' := by
  have H := Lib.hid (there_nil i)
  go_enter Try.func27, Try.ntmps27
  go_wp2_with fail
  refine (H.out _).mono ?_
  rintro e w' ⟨rfl, rfl⟩
  go_wp2_with fail
  go_returns
  exact ⟨rfl, Below.refl _ _⟩

theorem clear_nil (i : Int) (w : World) : Calls Try.prog 13 #[.pointer none, .int .i64 i] w fun e w' => e = .returned (.int .i64 0) ∧ w = w' := by
  go_enter Try.func13, Try.ntmps13
  go_wp2
  go_returns
  exact ⟨rfl, rfl⟩
theorem nins_below {w W W' : World} {s : Stp} (h : Ins w W s) (hb : Below W.heap.size W W') : Ins w W' s :=
  ⟨h.bl.trans (hb.mono h.bl.size), (hb.block _ (heap_lt h.c0)).trans h.c0, (hb.block _ (heap_lt h.c1)).trans h.c1, (hb.block _ (heap_lt h.c2)).trans h.c2⟩
theorem below3 {w W : World} {q : Nat} (h : Below w.heap.size w W) (hq : w.heap.size ≤ q) (a b d : Value) : Below w.heap.size w (((W.setCell ⟨q, 0, none⟩ a).setCell ⟨q, 1, none⟩ b).setCell ⟨q, 2, none⟩ d) :=
  ((h.setCell hq a).setCell hq b).setCell hq d
section
variable {w : World}
def NilV (w : World) (e : Ending) (w' : World) : Prop := e = .returned (.tuple #[.agg #[.int .i64 0, .int .i64 0, .string ⟨#[]⟩], .int .i64 0, .bool false]) ∧ Below w.heap.size w w'

set_option maxHeartbeats 4000000 in
theorem ndo1 (s : Stp) (hk : s.k = 1) :
    Calls Try.prog 15 #[.pointer none, .agg #[.int .i64 s.k, .int .i64 s.i, .int .i64 s.p.f, .int .i64 s.p.t, .string s.p.d]] w (NilV w) := by
  have hin := ins_drew (ins w s)
  have HC := Lib.hid (fun w => send_nil s.p w)
  have HI := Lib.hid hin
  clear hin
  unfold stpObj zObj at HI
  rw [hk] at HI ⊢
  go_enter Try.func15, Try.ntmps15
  go_wp2_with fail
  go_region_held3 (fun w' => w'.cell? ⟨w.heap.size + 1 + 1, 0, none⟩ = some (.int .i64 0) ∧ w'.cell? ⟨w.heap.size + 1 + 1, 1, none⟩ = some (.int .i64 0) ∧ w'.cell? ⟨w.heap.size + 1 + 1, 2, none⟩ = some (.string ⟨#[]⟩) ∧ w'.cell? ⟨w.heap.size, 2, none⟩ = some (.int .i64 s.p.f) ∧ w'.cell? ⟨w.heap.size, 3, none⟩ = some (.int .i64 s.p.t) ∧ w'.cell? ⟨w.heap.size, 4, none⟩ = some (.string s.p.d)) (first | exact ⟨z.1, z.2.1, z.2.2, y.2.2⟩ | exact ⟨(cell_z HI.out.c2).1, (cell_z HI.out.c2).2.1, (cell_z HI.out.c2).2.2, (cell_s HI.out.c0).2.2⟩ | go_keep)
    ((go_at_call 9; refine (HC.out _).mono ?_; rintro e w2 ⟨rfl, hgot⟩; have hf := nins_below HI.out hgot; have z := cell_z hf.c2; have z1 := cell_z hf.c1; have y := cell_s hf.c0; have ff : ∀ o, w2.frozen? ⟨w.heap.size + 1, o, none⟩ = false := row_froz hf.c1; have HF := Lib.hid hf; clear hf))
  all_goals
    have t3 := three_of HF.out.c1 rfl (.int .i64 0) (.int .i64 0) (.string ⟨#[]⟩)
    obtain ⟨s0, s1, s2⟩ := t3
    clear hgot
    go_wp2_with fail
    (try simp only [Exit.inBlock, Exit.then])
    refine bodyPost_ret (by simp [results, Try.results15, go_sem, s0, s1, s2]; try rfl) rfl ?_
    exact ⟨rfl, below3 HF.out.bl (by omega) _ _ _⟩

set_option maxHeartbeats 4000000 in
theorem ndo2 (s : Stp) (hk : s.k = 2) :
    Calls Try.prog 15 #[.pointer none, .agg #[.int .i64 s.k, .int .i64 s.i, .int .i64 s.p.f, .int .i64 s.p.t, .string s.p.d]] w (NilV w) := by
  have hin := ins_drew (ins w s)
  have HC := Lib.hid (fun w => deliver_nil s.i w)
  have HI := Lib.hid hin
  clear hin
  unfold stpObj zObj at HI
  rw [hk] at HI ⊢
  go_enter Try.func15, Try.ntmps15
  go_wp2_with fail
  go_region_held3 (fun w' => w'.cell? ⟨w.heap.size + 1 + 1, 0, none⟩ = some (.int .i64 0) ∧ w'.cell? ⟨w.heap.size + 1 + 1, 1, none⟩ = some (.int .i64 0) ∧ w'.cell? ⟨w.heap.size + 1 + 1, 2, none⟩ = some (.string ⟨#[]⟩) ∧ w'.cell? ⟨w.heap.size, 1, none⟩ = some (.int .i64 s.i)) (first | exact ⟨z.1, z.2.1, z.2.2, y.2.1⟩ | exact ⟨(cell_z HI.out.c2).1, (cell_z HI.out.c2).2.1, (cell_z HI.out.c2).2.2, (cell_s HI.out.c0).2.1⟩ | go_keep)
    ((go_at_call 11; refine (HC.out _).mono ?_; rintro e w2 ⟨rfl, hgot⟩; have hf := nins_below HI.out hgot; have z := cell_z hf.c2; have z1 := cell_z hf.c1; have y := cell_s hf.c0; have ff : ∀ o, w2.frozen? ⟨w.heap.size + 1, o, none⟩ = false := row_froz hf.c1; have HF := Lib.hid hf; clear hf))
  all_goals
    have t3 := three_of HF.out.c1 rfl (.int .i64 0) (.int .i64 0) (.string ⟨#[]⟩)
    obtain ⟨s0, s1, s2⟩ := t3
    clear hgot
    go_wp2_with fail
    (try simp only [Exit.inBlock, Exit.then])
    refine bodyPost_ret (by simp [results, Try.results15, go_sem, s0, s1, s2]; try rfl) rfl ?_
    exact ⟨rfl, below3 HF.out.bl (by omega) _ _ _⟩

set_option maxHeartbeats 4000000 in
theorem ndo3 (s : Stp) (hk : s.k = 3) :
    Calls Try.prog 15 #[.pointer none, .agg #[.int .i64 s.k, .int .i64 s.i, .int .i64 s.p.f, .int .i64 s.p.t, .string s.p.d]] w (NilV w) := by
  have hin := ins_drew (ins w s)
  have HC := Lib.hid (fun w => drop_nil s.i w)
  have HI := Lib.hid hin
  clear hin
  unfold stpObj zObj at HI
  rw [hk] at HI ⊢
  go_enter Try.func15, Try.ntmps15
  go_wp2_with fail
  go_region_held3 (fun w' => w'.cell? ⟨w.heap.size + 1 + 1, 0, none⟩ = some (.int .i64 0) ∧ w'.cell? ⟨w.heap.size + 1 + 1, 1, none⟩ = some (.int .i64 0) ∧ w'.cell? ⟨w.heap.size + 1 + 1, 2, none⟩ = some (.string ⟨#[]⟩) ∧ w'.cell? ⟨w.heap.size, 1, none⟩ = some (.int .i64 s.i)) (first | exact ⟨z.1, z.2.1, z.2.2, y.2.1⟩ | exact ⟨(cell_z HI.out.c2).1, (cell_z HI.out.c2).2.1, (cell_z HI.out.c2).2.2, (cell_s HI.out.c0).2.1⟩ | go_keep)
    ((go_at_call 25; refine (HC.out _).mono ?_; rintro e w2 ⟨rfl, hgot⟩; have hf := nins_below HI.out hgot; have z := cell_z hf.c2; have z1 := cell_z hf.c1; have y := cell_s hf.c0; have ff : ∀ o, w2.frozen? ⟨w.heap.size + 1, o, none⟩ = false := row_froz hf.c1; have HF := Lib.hid hf; clear hf))
  all_goals
    have t3 := three_of HF.out.c1 rfl (.int .i64 0) (.int .i64 0) (.string ⟨#[]⟩)
    obtain ⟨s0, s1, s2⟩ := t3
    clear hgot
    go_wp2_with fail
    (try simp only [Exit.inBlock, Exit.then])
    refine bodyPost_ret (by simp [results, Try.results15, go_sem, s0, s1, s2]; try rfl) rfl ?_
    exact ⟨rfl, below3 HF.out.bl (by omega) _ _ _⟩

set_option maxHeartbeats 4000000 in
theorem ndo4 (s : Stp) (hk : s.k = 4) :
    Calls Try.prog 15 #[.pointer none, .agg #[.int .i64 s.k, .int .i64 s.i, .int .i64 s.p.f, .int .i64 s.p.t, .string s.p.d]] w (NilV w) := by
  have hin := ins_drew (ins w s)
  have HC := Lib.hid (fun w => twice_nil s.i w)
  have HI := Lib.hid hin
  clear hin
  unfold stpObj zObj at HI
  rw [hk] at HI ⊢
  go_enter Try.func15, Try.ntmps15
  go_wp2_with fail
  go_region_held3 (fun w' => w'.cell? ⟨w.heap.size + 1 + 1, 0, none⟩ = some (.int .i64 0) ∧ w'.cell? ⟨w.heap.size + 1 + 1, 1, none⟩ = some (.int .i64 0) ∧ w'.cell? ⟨w.heap.size + 1 + 1, 2, none⟩ = some (.string ⟨#[]⟩) ∧ w'.cell? ⟨w.heap.size, 1, none⟩ = some (.int .i64 s.i)) (first | exact ⟨z.1, z.2.1, z.2.2, y.2.1⟩ | exact ⟨(cell_z HI.out.c2).1, (cell_z HI.out.c2).2.1, (cell_z HI.out.c2).2.2, (cell_s HI.out.c0).2.1⟩ | go_keep)
    ((go_at_call 27; refine (HC.out _).mono ?_; rintro e w2 ⟨rfl, hgot⟩; have hf := nins_below HI.out hgot; have z := cell_z hf.c2; have z1 := cell_z hf.c1; have y := cell_s hf.c0; have ff : ∀ o, w2.frozen? ⟨w.heap.size + 1, o, none⟩ = false := row_froz hf.c1; have HF := Lib.hid hf; clear hf))
  all_goals
    have t3 := three_of HF.out.c1 rfl (.int .i64 0) (.int .i64 0) (.string ⟨#[]⟩)
    obtain ⟨s0, s1, s2⟩ := t3
    clear hgot
    go_wp2_with fail
    (try simp only [Exit.inBlock, Exit.then])
    refine bodyPost_ret (by simp [results, Try.results15, go_sem, s0, s1, s2]; try rfl) rfl ?_
    exact ⟨rfl, below3 HF.out.bl (by omega) _ _ _⟩

set_option maxHeartbeats 4000000 in
theorem ndo6 (s : Stp) (hk : s.k = 6) :
    Calls Try.prog 15 #[.pointer none, .agg #[.int .i64 s.k, .int .i64 s.i, .int .i64 s.p.f, .int .i64 s.p.t, .string s.p.d]] w (NilV w) := by
  have hin := ins w s
  have HC := Lib.hid (fun w => clear_nil s.i w)
  have HI := Lib.hid hin
  clear hin
  unfold stpObj zObj at HI
  rw [hk] at HI ⊢
  go_enter Try.func15, Try.ntmps15
  go_wp2_with fail
  refine (HC.out _).mono ?_
  rintro e w2 ⟨rfl, hgot⟩
  have hf := HI.out
  rw [hgot] at hf
  have z := cell_z hf.c2
  have z1 := cell_z hf.c1
  have ff : ∀ o, w2.frozen? ⟨w.heap.size + 1, o, none⟩ = false := row_froz hf.c1
  have HF := Lib.hid hf
  clear hf
  have t3 := three_of HF.out.c1 rfl (.int .i64 0) (.int .i64 0) (.string ⟨#[]⟩)
  obtain ⟨s0, s1, s2⟩ := t3
  go_wp2_with fail
  (try simp only [Exit.inBlock, Exit.then])
  refine bodyPost_ret (by simp [results, Try.results15, go_sem, s0, s1, s2]; try rfl) rfl ?_
  exact ⟨rfl, below3 HF.out.bl (by omega) _ _ _⟩

set_option maxHeartbeats 4000000 in
theorem ndo5 (s : Stp) (hk : s.k = 5) :
    Calls Try.prog 15 #[.pointer none, .agg #[.int .i64 s.k, .int .i64 s.i, .int .i64 s.p.f, .int .i64 s.p.t, .string s.p.d]] w (NilV w) := by
  have hin := ins w s
  have HC := Lib.hid (fun w => next_nil s.i w)
  have HI := Lib.hid hin
  clear hin
  unfold stpObj zObj at HI
  rw [hk] at HI ⊢
  go_enter Try.func15, Try.ntmps15
  go_wp2_with fail
  refine (HC.out _).mono ?_
  rintro e w2 ⟨rfl, hgot⟩
  have hf := nins_below HI.out hgot
  have x0 := cell_z hf.c1
  have ff : ∀ o, w2.frozen? ⟨w.heap.size + 1, o, none⟩ = false := row_froz hf.c1
  have hl : w.heap.size + 1 < w2.heap.size := heap_lt hf.c1
  have hl2 : ¬ w.heap.size + 1 = w2.heap.size := by omega
  have h3 := put3 hf.c1 (.int .i64 0) (.int .i64 0) (.string ⟨#[]⟩)
  have h9 := below3 hf.bl (q := w.heap.size + 1) (by omega) (.int .i64 0) (.int .i64 0) (.string ⟨#[]⟩)
  generalize hX : (((w2.setCell ⟨w.heap.size + 1, 0, none⟩ (.int .i64 0)).setCell ⟨w.heap.size + 1, 1, none⟩ (.int .i64 0)).setCell ⟨w.heap.size + 1, 2, none⟩ (.string ⟨#[]⟩)) = X at *
  have h4 := (alloc_old X (.cells #[.int .i64 0, .int .i64 0, .string ⟨#[]⟩] 23) _ (heap_lt h3)).trans h3
  have u0 : (X.alloc (.cells #[.int .i64 0, .int .i64 0, .string ⟨#[]⟩] 23)).cell? ⟨w.heap.size + 1, 0, none⟩ = some (.int .i64 0) := by rw [row_cell h4]; rfl
  have u1 : (X.alloc (.cells #[.int .i64 0, .int .i64 0, .string ⟨#[]⟩] 23)).cell? ⟨w.heap.size + 1, 1, none⟩ = some (.int .i64 0) := by rw [row_cell h4]; rfl
  have u2 : (X.alloc (.cells #[.int .i64 0, .int .i64 0, .string ⟨#[]⟩] 23)).cell? ⟨w.heap.size + 1, 2, none⟩ = some (.string ⟨#[]⟩) := by rw [row_cell h4]; rfl
  have HF := Lib.hid (h9.trans ((show Below X.heap.size X (X.alloc (.cells #[.int .i64 0, .int .i64 0, .string ⟨#[]⟩] 23)) by go_grown).mono h9.size))
  have HXX := Lib.hid hX
  clear hf hgot h3 h4 h9 hX
  go_wp2_with fail
  (try simp only [Exit.inBlock, Exit.then])
  rw [HXX.out]
  refine bodyPost_ret (by simp [results, Try.results15, go_sem, u0, u1, u2]; try rfl) rfl ?_
  exact ⟨rfl, HF.out⟩

set_option maxHeartbeats 4000000 in
theorem ndo0 (s : Stp) (h1 : s.k ≠ 1) (h2 : s.k ≠ 2) (h3 : s.k ≠ 3) (h4 : s.k ≠ 4) (h5 : s.k ≠ 5) (h6 : s.k ≠ 6) :
    Calls Try.prog 15 #[.pointer none, .agg #[.int .i64 s.k, .int .i64 s.i, .int .i64 s.p.f, .int .i64 s.p.t, .string s.p.d]] w (NilV w) := by
  go_enter Try.func15, Try.ntmps15
  go_wp2_with fail
  go_returns
  exact ⟨rfl, by go_grown⟩
theorem ndo_any (s : Stp) (w : World) : Calls Try.prog 15 #[.pointer none, .agg #[.int .i64 s.k, .int .i64 s.i, .int .i64 s.p.f, .int .i64 s.p.t, .string s.p.d]] w (NilV w) := by
  by_cases h1 : s.k = 1
  · exact ndo1 s h1
  by_cases h2 : s.k = 2
  · exact ndo2 s h2
  by_cases h3 : s.k = 3
  · exact ndo3 s h3
  by_cases h4 : s.k = 4
  · exact ndo4 s h4
  by_cases h5 : s.k = 5
  · exact ndo5 s h5
  by_cases h6 : s.k = 6
  · exact ndo6 s h6
  exact ndo0 s h1 h2 h3 h4 h5 h6
end
end Go.Proofs.Ytdffghaledkfeaa
