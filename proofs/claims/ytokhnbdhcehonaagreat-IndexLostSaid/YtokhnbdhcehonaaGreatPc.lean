/- index: closures that compare (printed by gen_bs.py off its template). -/
import Derived.Test.YtokhnbdhcehonaaGreatRowk2
set_option linter.unusedSimpArgs false
set_option linter.unusedVariables false
namespace Go.Proofs.YtokhnbdhcehonaaGreat
open Go Go.RowKit Row
set_option maxRecDepth 100000
theorem handles1_pb {B b : Nat} {w : World} (q : Hd) (hb : w.heap[b]? = some (.cells (arr q) 40)) (hlt : b < B) : PB B w 113 #[.pointer (some ⟨b, 0, none⟩)] (fun y : Hd => decide (kH y = kH q)) := by
  refine ⟨fun args w => enters_of Tryz.func113 (by kernel_rfl) rfl args w, fun W y hW => ?_⟩
  have hbW := (hW.block b hlt).trans hb
  have HX := Lib.hid (heap_old_at (x := .cells (arr q) 40) (o := .cells (arr y) 40) hbW)
  have HY := Lib.hid (heap_alloc_new W (.cells (arr y) 40))
  have h0 := c3_zero lH_lin (kH y) (kH q)
  have HC := Lib.hid (fun w => held_any y q w)
  have HB : Hid (Below W.heap.size W (W.alloc (.cells (arr y) 40))) := Lib.hid (by go_grown)
  clear hbW hb hW
  generalize decide (kH y = kH q) = r at h0 ⊢
  show Calls _ _ #[.agg (arr y), .pointer (some ⟨b, 0, none⟩)] _ _
  go_enter Tryz.func113, Tryz.ntmps113
  go_wp2_with (first
    | (refine rw_load (α := Hd) rfl (.tmp 2) rfl W.heap.size 0 rfl y (range_row HY.out) ?_)
    | (refine rw_load (α := Hd) rfl (.tmp 1) rfl b 0 rfl q (range_row HX.out) ?_))
  refine (HC.out _).mono ?_
  rintro e w' ⟨rfl, hbw⟩
  have HBW := Lib.hid (HB.out.trans (hbw.mono HB.out.size))
  clear hbw
  go_wp2_with fail
  go_ret
  exact ⟨rfl, HBW.out⟩
theorem names1_pb {B b : Nat} {w : World} (q : Nm) (hb : w.heap[b]? = some (.cells (arr q) 54)) (hlt : b < B) : PB B w 121 #[.pointer (some ⟨b, 0, none⟩)] (fun y : Nm => decide (kN y = kN q)) := by
  refine ⟨fun args w => enters_of Tryz.func121 (by kernel_rfl) rfl args w, fun W y hW => ?_⟩
  have hbW := (hW.block b hlt).trans hb
  have HX := Lib.hid (heap_old_at (x := .cells (arr q) 54) (o := .cells (arr y) 54) hbW)
  have HY := Lib.hid (heap_alloc_new W (.cells (arr y) 54))
  have h0 := c3_zero lN_lin (kN y) (kN q)
  have HC := Lib.hid (fun w => known_any y q w)
  have HB : Hid (Below W.heap.size W (W.alloc (.cells (arr y) 54))) := Lib.hid (by go_grown)
  clear hbW hb hW
  generalize decide (kN y = kN q) = r at h0 ⊢
  show Calls _ _ #[.agg (arr y), .pointer (some ⟨b, 0, none⟩)] _ _
  go_enter Tryz.func121, Tryz.ntmps121
  go_wp2_with (first
    | (refine rw_load (α := Nm) rfl (.tmp 2) rfl W.heap.size 0 rfl y (range_row HY.out) ?_)
    | (refine rw_load (α := Nm) rfl (.tmp 1) rfl b 0 rfl q (range_row HX.out) ?_))
  refine (HC.out _).mono ?_
  rintro e w' ⟨rfl, hbw⟩
  have HBW := Lib.hid (HB.out.trans (hbw.mono HB.out.size))
  clear hbw
  go_wp2_with fail
  go_ret
  exact ⟨rfl, HBW.out⟩
theorem blocks1_pb {B b : Nat} {w : World} (q : Bl) (hb : w.heap[b]? = some (.cells (arr q) 59)) (hlt : b < B) : PB B w 109 #[.pointer (some ⟨b, 0, none⟩)] (fun y : Bl => decide (kB y = kB q)) := by
  refine ⟨fun args w => enters_of Tryz.func109 (by kernel_rfl) rfl args w, fun W y hW => ?_⟩
  have hbW := (hW.block b hlt).trans hb
  have HX := Lib.hid (heap_old_at (x := .cells (arr q) 59) (o := .cells (arr y) 59) hbW)
  have HY := Lib.hid (heap_alloc_new W (.cells (arr y) 59))
  have h0 := c3_zero lB_lin (kB y) (kB q)
  have HC := Lib.hid (fun w => placed_any y q w)
  have HB : Hid (Below W.heap.size W (W.alloc (.cells (arr y) 59))) := Lib.hid (by go_grown)
  clear hbW hb hW
  generalize decide (kB y = kB q) = r at h0 ⊢
  show Calls _ _ #[.agg (arr y), .pointer (some ⟨b, 0, none⟩)] _ _
  go_enter Tryz.func109, Tryz.ntmps109
  go_wp2_with (first
    | (refine rw_load (α := Bl) rfl (.tmp 2) rfl W.heap.size 0 rfl y (range_row HY.out) ?_)
    | (refine rw_load (α := Bl) rfl (.tmp 1) rfl b 0 rfl q (range_row HX.out) ?_))
  refine (HC.out _).mono ?_
  rintro e w' ⟨rfl, hbw⟩
  have HBW := Lib.hid (HB.out.trans (hbw.mono HB.out.size))
  clear hbw
  go_wp2_with fail
  go_ret
  exact ⟨rfl, HBW.out⟩
end Go.Proofs.YtokhnbdhcehonaaGreat
