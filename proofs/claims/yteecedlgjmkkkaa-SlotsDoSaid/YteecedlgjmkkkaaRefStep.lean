/- A step, the document's side. -/
import Derived.Test.YteecedlgjmkkkaaStep
namespace Go.Proofs.Yteecedlgjmkkkaa
open Go Go.RowKit

def up (l : List Nat) : List Nat := l.map (· + 1)
theorem up_len (l : List Nat) : (up l).length = l.length := by simp [up]
theorem up_at (l : List Nat) (k x : Nat) : (up l)[k]? = some (x + 1) ↔ l[k]? = some x := by simp [up]
theorem up_set (l : List Nat) (k x : Nat) : (up l).set k (x + 1) = up (l.set k x) := by simp [up, List.map_set]
theorem up_count (l : List Nat) (x : Nat) : (up l).count (x + 1) = l.count x := by
  unfold up
  rw [List.count_eq_countP, List.countP_map, List.count_eq_countP]
  congr 1
  funext y
  simp
theorem up_dec (l : List Nat) (i : Int) (x : Nat) : decide (0 ≤ i ∧ (up l)[i.toNat]? = some (x + 1)) = decide (0 ≤ i ∧ l[i.toNat]? = some x) := by
  exact decide_eq_decide.2 (by rw [up_at])

theorem info3 : (Try.prog.info? 3).map (fun i => (i.zero, i.size, i.bytes)) = some (some (.int .i64 0), 1, 8) := by kernel_rfl

theorem Row.cells {w : World} {g : Nat} {L : List Nat} (h : Row w g L) : ∀ (j : Nat) (u : Value), (numC L)[j]? = some u → w.cell? ((⟨g, 0, none⟩ : Addr).add j) = some u := by
  intro j u hu
  have hj : j < L.length := by
    have := (List.getElem?_eq_some_iff.1 hu).1
    simpa [numC] using this
  have e : (⟨g, 0, none⟩ : Addr).add j = ⟨g, j, none⟩ := by unfold Addr.add; split <;> simp_all
  rw [e, h.cell hj]
  simpa [numC, hj] using hu
theorem numC_one (L : List Nat) : ∀ u ∈ numC L, u.oneCell' = true := by
  intro u hu
  obtain ⟨x, _, rfl⟩ := List.mem_map.1 hu
  rfl

/-- what stands behind the copy -/
structure Copied (w : World) (kind i : Int) (L : List Nat) (g' : Nat) (w1 : World) : Prop where
  bl : Below w.heap.size w w1
  ge : w.heap.size ≤ g'
  ne : g' ≠ w.heap.size
  row : Row w1 g' L
  box : w1.heap[w.heap.size]? = some (.cells #[.int .i64 kind, .int .i64 i] 36)
theorem copied {w w1 : World} {kind i : Int} {L : List Nat} {n : Nat} {v' : Value} (hn : L.length = n) (hpos : 0 < n)
    (hown : w1.ownsRow w.heap.size 3 1 v' n (numC L)) (hgrow : ((w.alloc (.cells #[.int .i64 kind, .int .i64 i] 36)).alloc (.cells #[] 3)).grownBy w1 (some (w.heap.size + 1))) :
    ∃ g' cap', v' = .slice (some ⟨g', 0, none⟩) n cap' ∧ Copied w kind i L g' w1 := by
  subst hn
  have h2 := hown.2
  have hsz : ((w.alloc (.cells #[.int .i64 kind, .int .i64 i] 36)).alloc (.cells #[] 3)).heap.size = w.heap.size + 2 := by simp
  have hbox : w1.heap[w.heap.size]? = some (.cells #[.int .i64 kind, .int .i64 i] 36) := by
    rw [hgrow.block _ (by rw [hsz]; omega) (by simp)]
    show ((w.heap.push _).push _)[w.heap.size]? = _
    rw [Array.getElem?_push, if_neg (by simp), Array.getElem?_push, if_pos rfl]
  have hbl : Below w.heap.size w w1 := by
    refine ⟨hgrow.os, hgrow.tape, hgrow.output, ?_, fun k hk => ?_⟩
    · have := hgrow.size; rw [hsz] at this; omega
    · rw [hgrow.block k (by rw [hsz]; omega) (by simp; omega)]
      show ((w.heap.push _).push _)[k]? = _
      rw [Array.getElem?_push, if_neg (by simp; omega), Array.getElem?_push, if_neg (by omega)]
  rcases h2 with ⟨_, h0⟩ | ⟨g, cap, cur, rfl, hb, hgg, _, _, _, htake⟩
  · omega
  · refine ⟨g, cap, rfl, hbl, hb, ?_, ⟨cur, hgg, by simpa using htake⟩, hbox⟩
    rintro rfl
    rw [hbox] at hgg
    cases hgg
theorem Copied.c0 {w w1 : World} {kind i : Int} {L : List Nat} {g' : Nat} (h : Copied w kind i L g' w1) : w1.cell? ⟨w.heap.size, 0, none⟩ = some (.int .i64 kind) := by rw [cell_at h.box]; rfl
theorem Copied.c1 {w w1 : World} {kind i : Int} {L : List Nat} {g' : Nat} (h : Copied w kind i L g' w1) : w1.cell? ⟨w.heap.size, 1, none⟩ = some (.int .i64 i) := by rw [cell_at h.box]; rfl

def RStepV (l : List Nat) (kind i : Int) (w : World) (e : Ending) (w' : World) : Prop :=
  ∃ g' cap', e = .returned (.tuple #[.slice (some ⟨g', 0, none⟩) l.length cap', .int .i64 (step l kind i).2.1, .bool (step l kind i).2.2]) ∧ w.heap.size ≤ g' ∧ Below w.heap.size w w' ∧ Row w' g' (up (step l kind i).1)

set_option maxHeartbeats 1000000 in
theorem refdo_use_yes (gm cap : Nat) (l : List Nat) (kind : Int) (w : World) (hr : Row w gm (up l)) (hpos : 0 < l.length) (hfew : l.length ≤ 65536) (k : Nat) (h1 : (kind == 1) = true) (hk : k < l.length) (hx : l[k]? = some 0) :
    Calls Try.prog 12 #[.slice (some ⟨gm, 0, none⟩) l.length cap, .agg #[.int .i64 kind, .int .i64 k]] w (RStepV l kind k w) := by
  have hs : step l kind k = (l.set k 1, 0, true) := by rw [step, if_pos (by simpa using h1), if_pos ⟨by omega, by simpa using hx⟩]; simp
  have HS := Lib.hid hs
  clear hs
  obtain ⟨i0, hi, hz0, hz1, hz2⟩ := info_parts info3
  have hb2 : Below w.heap.size w ((w.alloc (.cells #[.int .i64 kind, .int .i64 k] 36)).alloc (.cells #[] 3)) := by go_grown
  have HCS := Lib.hid (hr.below hb2).cells
  have HR := Lib.hid hr
  clear hr hb2
  have hown0 : (((w.alloc (.cells #[.int .i64 kind, .int .i64 k] 36)).alloc (.cells #[] 3)).ownsRow w.heap.size 3 1 (.slice (some ⟨w.heap.size + 1, 0, none⟩) 0 0) 0 []) := by
    have := World.ownsRow_made (base := w.heap.size) (size := 1) (e := 3) (w.alloc (.cells #[.int .i64 kind, .int .i64 k] 36)) #[] 0 (by simp) (Nat.zero_le _) (by simp)
    simpa using this
  go_enter Try.func12, Try.ntmps12
  go_wp2_with (at_builtin; refine wpList_append_own _ rfl (.tmp 10) (.tmp 11) 22 rfl w.heap.size 3 i0 (.int .i64 0) 1 8 Try.underlying22 hi hz0 hz1 hz2 rfl (by decide) _ 0 [] rfl hown0 ⟨gm, 0, none⟩ l.length cap (numC (up l)) rfl (by simp [numC, up]) HCS.out (numC_one _) (by unfold maxLen; omega) (by omega) (by simp; omega) ?_)
  intro v' w1 hown hgrow _
  obtain ⟨g', cap', rfl, hcp⟩ := copied (up_len l) hpos hown hgrow
  have HCP := Lib.hid hcp
  have hk0 := hcp.c0
  have hk1 := hcp.c1
  clear hown hgrow hown0 hcp HCS hi
  have hi : Calls Try.prog 19 #[.slice (some ⟨gm, 0, none⟩) l.length cap, .int .i64 k, .int .i64 1] w1 fun e w' => e = .returned (.bool true) ∧ w1 = w' := by
    have := is_any gm cap 1 k (up l) w1 (HR.out.below HCP.out.bl)
    rw [up_len, decide_eq_true ⟨by omega, by simpa using (up_at l k 0).2 hx⟩] at this
    exact this
  have HI := Lib.hid hi
  clear hi hx
  have hcl := HCP.out.row.cell (k := k) (by rw [up_len]; exact hk)
  have hfz := HCP.out.row.froz k
  go_wp2_with fail
  refine HI.out.mono ?_
  rintro e w' ⟨rfl, rfl⟩
  go_wp2_with fail
  go_ret3
  unfold RStepV
  rw [HS.out]
  exact ⟨g', cap', rfl, HCP.out.ge, HCP.out.bl.setCell HCP.out.ge _, by rw [← up_set]; exact HCP.out.row.set k 2⟩
set_option maxHeartbeats 1000000 in
theorem refdo_use_no (gm cap : Nat) (l : List Nat) (kind : Int) (w : World) (hr : Row w gm (up l)) (hpos : 0 < l.length) (hfew : l.length ≤ 65536) (i : Int) (h1 : (kind == 1) = true) (hx : ¬ (0 ≤ i ∧ l[i.toNat]? = some 0)) :
    Calls Try.prog 12 #[.slice (some ⟨gm, 0, none⟩) l.length cap, .agg #[.int .i64 kind, .int .i64 i]] w (RStepV l kind i w) := by
  have hs : step l kind i = (l, 0, false) := by rw [step, if_pos (by simpa using h1), if_neg hx]
  have HS := Lib.hid hs
  clear hs
  obtain ⟨i0, hi, hz0, hz1, hz2⟩ := info_parts info3
  have hb2 : Below w.heap.size w ((w.alloc (.cells #[.int .i64 kind, .int .i64 i] 36)).alloc (.cells #[] 3)) := by go_grown
  have HCS := Lib.hid (hr.below hb2).cells
  have HR := Lib.hid hr
  clear hr hb2
  have hown0 : (((w.alloc (.cells #[.int .i64 kind, .int .i64 i] 36)).alloc (.cells #[] 3)).ownsRow w.heap.size 3 1 (.slice (some ⟨w.heap.size + 1, 0, none⟩) 0 0) 0 []) := by
    have := World.ownsRow_made (base := w.heap.size) (size := 1) (e := 3) (w.alloc (.cells #[.int .i64 kind, .int .i64 i] 36)) #[] 0 (by simp) (Nat.zero_le _) (by simp)
    simpa using this
  go_enter Try.func12, Try.ntmps12
  go_wp2_with (at_builtin; refine wpList_append_own _ rfl (.tmp 10) (.tmp 11) 22 rfl w.heap.size 3 i0 (.int .i64 0) 1 8 Try.underlying22 hi hz0 hz1 hz2 rfl (by decide) _ 0 [] rfl hown0 ⟨gm, 0, none⟩ l.length cap (numC (up l)) rfl (by simp [numC, up]) HCS.out (numC_one _) (by unfold maxLen; omega) (by omega) (by simp; omega) ?_)
  intro v' w1 hown hgrow _
  obtain ⟨g', cap', rfl, hcp⟩ := copied (up_len l) hpos hown hgrow
  have HCP := Lib.hid hcp
  have hk0 := hcp.c0
  have hk1 := hcp.c1
  clear hown hgrow hown0 hcp HCS hi
  have hi : Calls Try.prog 19 #[.slice (some ⟨gm, 0, none⟩) l.length cap, .int .i64 i, .int .i64 1] w1 fun e w' => e = .returned (.bool false) ∧ w1 = w' := by
    have := is_any gm cap 1 i (up l) w1 (HR.out.below HCP.out.bl)
    rw [up_len, up_dec l i 0, decide_eq_false hx] at this
    exact this
  have HI := Lib.hid hi
  clear hi hx
  go_wp2_with fail
  refine HI.out.mono ?_
  rintro e w' ⟨rfl, rfl⟩
  go_wp2_with fail
  go_ret3
  unfold RStepV
  rw [HS.out]
  exact ⟨g', cap', rfl, HCP.out.ge, HCP.out.bl, HCP.out.row⟩
set_option maxHeartbeats 1000000 in
theorem refdo_give_yes (gm cap : Nat) (l : List Nat) (kind : Int) (w : World) (hr : Row w gm (up l)) (hpos : 0 < l.length) (hfew : l.length ≤ 65536) (k : Nat) (h1 : (kind == 1) = false) (h2 : (kind == 2) = true) (hk : k < l.length) (hx : l[k]? = some 1) :
    Calls Try.prog 12 #[.slice (some ⟨gm, 0, none⟩) l.length cap, .agg #[.int .i64 kind, .int .i64 k]] w (RStepV l kind k w) := by
  have hs : step l kind k = (l.set k 2, 0, true) := by rw [step, if_neg (by simpa using h1), if_pos (by simpa using h2), if_pos ⟨by omega, by simpa using hx⟩]; simp
  have HS := Lib.hid hs
  clear hs
  obtain ⟨i0, hi, hz0, hz1, hz2⟩ := info_parts info3
  have hb2 : Below w.heap.size w ((w.alloc (.cells #[.int .i64 kind, .int .i64 k] 36)).alloc (.cells #[] 3)) := by go_grown
  have HCS := Lib.hid (hr.below hb2).cells
  have HR := Lib.hid hr
  clear hr hb2
  have hown0 : (((w.alloc (.cells #[.int .i64 kind, .int .i64 k] 36)).alloc (.cells #[] 3)).ownsRow w.heap.size 3 1 (.slice (some ⟨w.heap.size + 1, 0, none⟩) 0 0) 0 []) := by
    have := World.ownsRow_made (base := w.heap.size) (size := 1) (e := 3) (w.alloc (.cells #[.int .i64 kind, .int .i64 k] 36)) #[] 0 (by simp) (Nat.zero_le _) (by simp)
    simpa using this
  go_enter Try.func12, Try.ntmps12
  go_wp2_with (at_builtin; refine wpList_append_own _ rfl (.tmp 10) (.tmp 11) 22 rfl w.heap.size 3 i0 (.int .i64 0) 1 8 Try.underlying22 hi hz0 hz1 hz2 rfl (by decide) _ 0 [] rfl hown0 ⟨gm, 0, none⟩ l.length cap (numC (up l)) rfl (by simp [numC, up]) HCS.out (numC_one _) (by unfold maxLen; omega) (by omega) (by simp; omega) ?_)
  intro v' w1 hown hgrow _
  obtain ⟨g', cap', rfl, hcp⟩ := copied (up_len l) hpos hown hgrow
  have HCP := Lib.hid hcp
  have hk0 := hcp.c0
  have hk1 := hcp.c1
  clear hown hgrow hown0 hcp HCS hi
  have hi : Calls Try.prog 19 #[.slice (some ⟨gm, 0, none⟩) l.length cap, .int .i64 k, .int .i64 2] w1 fun e w' => e = .returned (.bool true) ∧ w1 = w' := by
    have := is_any gm cap 2 k (up l) w1 (HR.out.below HCP.out.bl)
    rw [up_len, decide_eq_true ⟨by omega, by simpa using (up_at l k 1).2 hx⟩] at this
    exact this
  have HI := Lib.hid hi
  clear hi hx
  have hcl := HCP.out.row.cell (k := k) (by rw [up_len]; exact hk)
  have hfz := HCP.out.row.froz k
  go_wp2_with fail
  refine HI.out.mono ?_
  rintro e w' ⟨rfl, rfl⟩
  go_wp2_with fail
  go_ret3
  unfold RStepV
  rw [HS.out]
  exact ⟨g', cap', rfl, HCP.out.ge, HCP.out.bl.setCell HCP.out.ge _, by rw [← up_set]; exact HCP.out.row.set k 3⟩
set_option maxHeartbeats 1000000 in
theorem refdo_give_no (gm cap : Nat) (l : List Nat) (kind : Int) (w : World) (hr : Row w gm (up l)) (hpos : 0 < l.length) (hfew : l.length ≤ 65536) (i : Int) (h1 : (kind == 1) = false) (h2 : (kind == 2) = true) (hx : ¬ (0 ≤ i ∧ l[i.toNat]? = some 1)) :
    Calls Try.prog 12 #[.slice (some ⟨gm, 0, none⟩) l.length cap, .agg #[.int .i64 kind, .int .i64 i]] w (RStepV l kind i w) := by
  have hs : step l kind i = (l, 0, false) := by rw [step, if_neg (by simpa using h1), if_pos (by simpa using h2), if_neg hx]
  have HS := Lib.hid hs
  clear hs
  obtain ⟨i0, hi, hz0, hz1, hz2⟩ := info_parts info3
  have hb2 : Below w.heap.size w ((w.alloc (.cells #[.int .i64 kind, .int .i64 i] 36)).alloc (.cells #[] 3)) := by go_grown
  have HCS := Lib.hid (hr.below hb2).cells
  have HR := Lib.hid hr
  clear hr hb2
  have hown0 : (((w.alloc (.cells #[.int .i64 kind, .int .i64 i] 36)).alloc (.cells #[] 3)).ownsRow w.heap.size 3 1 (.slice (some ⟨w.heap.size + 1, 0, none⟩) 0 0) 0 []) := by
    have := World.ownsRow_made (base := w.heap.size) (size := 1) (e := 3) (w.alloc (.cells #[.int .i64 kind, .int .i64 i] 36)) #[] 0 (by simp) (Nat.zero_le _) (by simp)
    simpa using this
  go_enter Try.func12, Try.ntmps12
  go_wp2_with (at_builtin; refine wpList_append_own _ rfl (.tmp 10) (.tmp 11) 22 rfl w.heap.size 3 i0 (.int .i64 0) 1 8 Try.underlying22 hi hz0 hz1 hz2 rfl (by decide) _ 0 [] rfl hown0 ⟨gm, 0, none⟩ l.length cap (numC (up l)) rfl (by simp [numC, up]) HCS.out (numC_one _) (by unfold maxLen; omega) (by omega) (by simp; omega) ?_)
  intro v' w1 hown hgrow _
  obtain ⟨g', cap', rfl, hcp⟩ := copied (up_len l) hpos hown hgrow
  have HCP := Lib.hid hcp
  have hk0 := hcp.c0
  have hk1 := hcp.c1
  clear hown hgrow hown0 hcp HCS hi
  have hi : Calls Try.prog 19 #[.slice (some ⟨gm, 0, none⟩) l.length cap, .int .i64 i, .int .i64 2] w1 fun e w' => e = .returned (.bool false) ∧ w1 = w' := by
    have := is_any gm cap 2 i (up l) w1 (HR.out.below HCP.out.bl)
    rw [up_len, up_dec l i 1, decide_eq_false hx] at this
    exact this
  have HI := Lib.hid hi
  clear hi hx
  go_wp2_with fail
  refine HI.out.mono ?_
  rintro e w' ⟨rfl, rfl⟩
  go_wp2_with fail
  go_ret3
  unfold RStepV
  rw [HS.out]
  exact ⟨g', cap', rfl, HCP.out.ge, HCP.out.bl, HCP.out.row⟩
set_option maxHeartbeats 1000000 in
theorem refdo_take (gm cap : Nat) (l : List Nat) (kind : Int) (w : World) (hr : Row w gm (up l)) (hpos : 0 < l.length) (hfew : l.length ≤ 65536) (i : Int) (h1 : (kind == 1) = false) (h2 : (kind == 2) = false) (h3 : (kind == 3) = false) :
    Calls Try.prog 12 #[.slice (some ⟨gm, 0, none⟩) l.length cap, .agg #[.int .i64 kind, .int .i64 i]] w (RStepV l kind i w) := by
  have hs : step l kind i = (match lst l with | some k => (l.set k 1, (k : Int), true) | none => (l, 0, false)) := by rw [step, if_neg (by simpa using h1), if_neg (by simpa using h2), if_neg (by simpa using h3)]; cases lst l <;> rfl
  have HS := Lib.hid hs
  clear hs
  obtain ⟨i0, hi, hz0, hz1, hz2⟩ := info_parts info3
  have hb2 : Below w.heap.size w ((w.alloc (.cells #[.int .i64 kind, .int .i64 i] 36)).alloc (.cells #[] 3)) := by go_grown
  have HCS := Lib.hid (hr.below hb2).cells
  have HR := Lib.hid hr
  clear hr hb2
  have hown0 : (((w.alloc (.cells #[.int .i64 kind, .int .i64 i] 36)).alloc (.cells #[] 3)).ownsRow w.heap.size 3 1 (.slice (some ⟨w.heap.size + 1, 0, none⟩) 0 0) 0 []) := by
    have := World.ownsRow_made (base := w.heap.size) (size := 1) (e := 3) (w.alloc (.cells #[.int .i64 kind, .int .i64 i] 36)) #[] 0 (by simp) (Nat.zero_le _) (by simp)
    simpa using this
  go_enter Try.func12, Try.ntmps12
  go_wp2_with (at_builtin; refine wpList_append_own _ rfl (.tmp 10) (.tmp 11) 22 rfl w.heap.size 3 i0 (.int .i64 0) 1 8 Try.underlying22 hi hz0 hz1 hz2 rfl (by decide) _ 0 [] rfl hown0 ⟨gm, 0, none⟩ l.length cap (numC (up l)) rfl (by simp [numC, up]) HCS.out (numC_one _) (by unfold maxLen; omega) (by omega) (by simp; omega) ?_)
  intro v' w1 hown hgrow _
  obtain ⟨g', cap', rfl, hcp⟩ := copied (up_len l) hpos hown hgrow
  have HCP := Lib.hid hcp
  have hk0 := hcp.c0
  have hk1 := hcp.c1
  clear hown hgrow hown0 hcp HCS hi
  have hi : Calls Try.prog 20 #[.slice (some ⟨gm, 0, none⟩) l.length cap, .int .i64 1] w1 (LeastV 1 (up l) w1) := by
    have := refleast_any gm cap 1 (up l) w1 (HR.out.below HCP.out.bl) (by rw [up_len]; exact hfew)
    rw [up_len] at this
    exact this
  have HI := Lib.hid hi
  clear hi
  go_wp2_with fail
  refine HI.out.mono ?_
  rintro e w' ⟨rfl, ⟨k, hk, hno, rfl⟩ | ⟨hno, rfl⟩⟩
  · have hl : lst l = some k := lst_some ((up_at l k 0).1 hk) fun j hj h => hno j hj ((up_at l j 0).2 h)
    have hkl : k < l.length := (List.getElem?_eq_some_iff.1 ((up_at l k 0).1 hk)).1
    have HL := Lib.hid hl
    clear hl hk hno
    have hcl := HCP.out.row.cell (k := k) (by rw [up_len]; exact hkl)
    have hfz := HCP.out.row.froz k
    go_wp2_with fail
    go_ret3
    unfold RStepV
    rw [HS.out, HL.out]
    exact ⟨g', cap', rfl, HCP.out.ge, HCP.out.bl.setCell HCP.out.ge _, by rw [← up_set]; exact HCP.out.row.set k 2⟩
  · have hl : lst l = none := lst_none fun j h => hno j ((up_at l j 0).2 h)
    have HL := Lib.hid hl
    clear hl hno
    go_wp2_with fail
    go_ret3
    unfold RStepV
    rw [HS.out, HL.out]
    exact ⟨g', cap', rfl, HCP.out.ge, HCP.out.bl, HCP.out.row⟩
set_option maxHeartbeats 1000000 in
theorem refdo_settle (gm cap : Nat) (l : List Nat) (kind : Int) (w : World) (hr : Row w gm (up l)) (hpos : 0 < l.length) (hfew : l.length ≤ 65536) (i : Int) (h1 : (kind == 1) = false) (h2 : (kind == 2) = false) (h3 : (kind == 3) = true) :
    Calls Try.prog 12 #[.slice (some ⟨gm, 0, none⟩) l.length cap, .agg #[.int .i64 kind, .int .i64 i]] w (RStepV l kind i w) := by
  have hs : step l kind i = (l.map fx, ((l.count 2 : Nat) : Int), true) := by rw [step, if_neg (by simpa using h1), if_neg (by simpa using h2), if_pos (by simpa using h3)]
  have HS := Lib.hid hs
  clear hs
  obtain ⟨i0, hi, hz0, hz1, hz2⟩ := info_parts info3
  have hb2 : Below w.heap.size w ((w.alloc (.cells #[.int .i64 kind, .int .i64 i] 36)).alloc (.cells #[] 3)) := by go_grown
  have HCS := Lib.hid (hr.below hb2).cells
  have HR := Lib.hid hr
  clear hr hb2
  have hown0 : (((w.alloc (.cells #[.int .i64 kind, .int .i64 i] 36)).alloc (.cells #[] 3)).ownsRow w.heap.size 3 1 (.slice (some ⟨w.heap.size + 1, 0, none⟩) 0 0) 0 []) := by
    have := World.ownsRow_made (base := w.heap.size) (size := 1) (e := 3) (w.alloc (.cells #[.int .i64 kind, .int .i64 i] 36)) #[] 0 (by simp) (Nat.zero_le _) (by simp)
    simpa using this
  go_enter Try.func12, Try.ntmps12
  go_wp2_with (at_builtin; refine wpList_append_own _ rfl (.tmp 10) (.tmp 11) 22 rfl w.heap.size 3 i0 (.int .i64 0) 1 8 Try.underlying22 hi hz0 hz1 hz2 rfl (by decide) _ 0 [] rfl hown0 ⟨gm, 0, none⟩ l.length cap (numC (up l)) rfl (by simp [numC, up]) HCS.out (numC_one _) (by unfold maxLen; omega) (by omega) (by simp; omega) ?_)
  intro v' w1 hown hgrow _
  obtain ⟨g', cap', rfl, hcp⟩ := copied (up_len l) hpos hown hgrow
  have HCP := Lib.hid hcp
  have hk0 := hcp.c0
  have hk1 := hcp.c1
  clear hown hgrow hown0 hcp HCS hi
  go_wp2_with fail
  go_loopw [8] (fun j wr => ∃ k : Nat, k ≤ l.length ∧ j = .int .i64 k ∧ Below w.heap.size w wr ∧ Row wr g' (up (fix k l))) (fun j _ => l.length - (intOf j).toNat)
  case atStart => exact ⟨0, by omega, rfl, HCP.out.bl, by rw [fix_zero]; exact HCP.out.row⟩
  case round =>
    obtain ⟨k, hk, rfl, hbl, hrow⟩ := hrel
    have HB := Lib.hid (And.intro hbl hrow)
    clear hbl hrow
    by_cases hlt : k < l.length
    · have hfa := fix_at k l hlt
      have hul : (up (fix k l)).length = l.length := by rw [up_len, fix_len]
      have hcl := HB.out.2.cell (k := k) (by rw [hul]; exact hlt)
      have hfz := HB.out.2.froz k
      have hv : (up (fix k l))[k]'(by rw [hul]; exact hlt) = l[k] + 1 := by
        have := (up_at (fix k l) k l[k]).2 hfa
        rw [List.getElem?_eq_getElem (by rw [hul]; exact hlt)] at this
        exact Option.some.inj this
      rw [hv] at hcl
      clear hv hul hfa
      by_cases he : l[k] = 2
      · have hfy := Lib.hid (fix_yes k l hlt he)
        have ht : ((((l[k] + 1 : Nat)) : Int) == 3) = true := by rw [he]; rfl
        clear he
        go_wp2_with fail
        go_roundw
        case rel => exact ⟨k + 1, by omega, by go_num, HB.out.1.setCell HCP.out.ge _, by rw [← hfy.out, ← up_set]; exact HB.out.2.set k 1⟩
        case measure => simp [intOf]; omega
      · have hfy := Lib.hid (fix_no k l hlt he)
        have ht : ((((l[k] + 1 : Nat)) : Int) == 3) = false := neI (b := 3) (by omega)
        clear he
        go_wp2_with fail
        go_roundw
        case rel => exact ⟨k + 1, by omega, by go_num, HB.out.1, by rw [← hfy.out]; exact HB.out.2⟩
        case measure => simp [intOf]; omega
    · obtain rfl : k = l.length := by omega
      have hi : Calls Try.prog 14 #[.slice (some ⟨gm, 0, none⟩) l.length cap, .int .i64 3] wr fun e w' => e = .returned (.int .i64 (l.count 2 : Nat)) ∧ wr = w' := by
        have := refcount_any gm cap 3 (up l) wr (HR.out.below HB.out.1) (by rw [up_len]; exact hfew)
        rw [up_len, up_count l 2] at this
        exact this
      have HI := Lib.hid hi
      clear hi
      go_wp2_with fail
      refine HI.out.mono ?_
      rintro e w' ⟨rfl, rfl⟩
      go_wp2_with fail
      go_ret3
      unfold RStepV
      rw [HS.out]
      exact ⟨g', cap', rfl, HCP.out.ge, HB.out.1, by rw [← fix_all]; exact HB.out.2⟩
theorem refdo_any (gm cap : Nat) (l : List Nat) (kind i : Int) (w : World) (hr : Row w gm (up l)) (hpos : 0 < l.length) (hfew : l.length ≤ 65536) :
    Calls Try.prog 12 #[.slice (some ⟨gm, 0, none⟩) l.length cap, .agg #[.int .i64 kind, .int .i64 i]] w (RStepV l kind i w) := by
  cases h1 : (kind == 1) with
  | true =>
    by_cases hx : 0 ≤ i ∧ l[i.toNat]? = some 0
    · obtain ⟨k, rfl⟩ : ∃ k : Nat, i = k := ⟨i.toNat, by omega⟩
      exact refdo_use_yes gm cap l kind w hr hpos hfew k h1 (List.getElem?_eq_some_iff.1 hx.2).1 hx.2
    · exact refdo_use_no gm cap l kind w hr hpos hfew i h1 hx
  | false =>
    cases h2 : (kind == 2) with
    | true =>
      by_cases hx : 0 ≤ i ∧ l[i.toNat]? = some 1
      · obtain ⟨k, rfl⟩ : ∃ k : Nat, i = k := ⟨i.toNat, by omega⟩
        exact refdo_give_yes gm cap l kind w hr hpos hfew k h1 h2 (List.getElem?_eq_some_iff.1 hx.2).1 hx.2
      · exact refdo_give_no gm cap l kind w hr hpos hfew i h1 h2 hx
    | false =>
      cases h3 : (kind == 3) with
      | true => exact refdo_settle gm cap l kind w hr hpos hfew i h1 h2 h3
      | false => exact refdo_take gm cap l kind w hr hpos hfew i h1 h2 h3
end Go.Proofs.Yteecedlgjmkkkaa
