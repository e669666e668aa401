/- index: what must come of fixed calls. -/
import Derived.Test.YtokhnbdhcehonaaGreatAll
set_option linter.unusedSimpArgs false
set_option linter.unusedVariables false
namespace Go.Proofs.YtokhnbdhcehonaaGreat
open Go Go.RowKit Row
set_option maxRecDepth 100000
def kx1 : Ch := ⟨3, 0, 0, ⟨#[100]⟩, ⟨#[]⟩, ⟨#[]⟩, ⟨2, 0, 0, 0, 0, 0, 0, 0, 0, 0⟩, 0, 0⟩
def kx2 : Ch := ⟨6, 0, 0, ⟨#[100]⟩, ⟨#[97]⟩, ⟨#[]⟩, At.zero, 0, 0⟩
def kx3 : Ch := ⟨5, 0, 0, ⟨#[100]⟩, ⟨#[]⟩, ⟨#[]⟩, At.zero, 0, 0⟩
def kL : List Ch := [kx1, kx2, kx3]
def ca0 : Ca := ⟨[], [], [], []⟩
def cv0 : Cv := RowT.z
def kD : Ca := ⟨[], [⟨⟨#[100]⟩, ⟨2, 0, 0, 0, 0, 0, 0, 0, 0, 0⟩⟩], [], []⟩
theorem known_goes : goC ca0 kL = some kD := by
  kernel_rfl
theorem ca0_at (w : World) : CaAt w cv0 ca0 := ⟨Rs.nil _ _, Rs.nil _ _, Rs.nil _ _, Rs.nil _ _⟩
theorem ca0_rises : Rises ca0 := ⟨.nil, .nil, .nil, .nil⟩
theorem ca0_few (m : Nat) : Few ca0 m := ⟨Nat.zero_le _, Nat.zero_le _, Nat.zero_le _, Nat.zero_le _⟩
theorem kl_at (w : World) : Rs (w.alloc (.cells (enc kL).toArray 69)) 0 (.slice (some ⟨w.heap.size, 0, none⟩) 3 3) kL := by
  refine ⟨by rw [enc_len], .inr ⟨w.heap.size, 0, 3, _, rfl, Nat.zero_le _, heap_alloc_new _ _, Nat.le_refl _, by decide, ?_, fun j u hu => ?_⟩⟩
  · rw [List.size_toArray, enc_len]; exact Nat.le_refl _
  · rw [Nat.zero_add]; simpa using hu
set_option maxHeartbeats 16000000 in
theorem kn_any (w : World) : Calls Tryz.prog 10 #[] w fun e w' => e = .returned (.bool true) ∧ Below w.heap.size w w' := by
  have HA := Lib.hid (all_any (ca0_at (w.alloc (.cells (enc kL).toArray 69))) (ca0_few 900) ca0_rises (kl_at w) (by decide))
  rw [known_goes] at HA
  have HB0 : Hid (Below w.heap.size w (w.alloc (.cells (enc kL).toArray 69))) := Lib.hid (by go_grown)
  obtain ⟨ie, hie, hz, hn, -⟩ := RowT.info (α := Ch)
  have HI := Lib.hid hie
  have HZ := Lib.hid hz
  have HN := Lib.hid hn
  clear hie hz hn
  go_enter Tryz.func10, Tryz.ntmps10
  go_wp2_with (refine wpList_buildSlice rfl 22 69 3 #[(0, .tmp 6), (1, .tmp 7), (2, .tmp 8)] rfl (enc kL).toArray ie (.agg (arr (RowT.z : Ch))) Tryz.underlying22 HI.out HZ.out (by rw [HN.out]; decide) (by rw [HN.out]; decide) (by rw [HN.out]; kernel_rfl) ?_)
  refine HA.out.mono ?_
  rintro r w2 ⟨cv', rfl, hca, hb2⟩
  have hb3 := HB0.out.trans (hb2.mono HB0.out.size)
  obtain ⟨A1, k1, hv1, _, _⟩ := hca.fs.any
  obtain ⟨A2, k2, hv2, _, _⟩ := hca.ns.any
  have HB3 := Lib.hid (hb3.trans (bel_box (o := .cells (arr cv') (RowT.T Cv)) |>.mono hb3.size))
  have c1 := (cv_cells (heap_alloc_new w2 (.cells (arr cv') (RowT.T Cv)))).2.1
  have c2 := (cv_cells (heap_alloc_new w2 (.cells (arr cv') (RowT.T Cv)))).2.2.1
  rw [hv1] at c1
  rw [hv2] at c2
  clear hca hb2 hb3 hv1 hv2 HA HI HZ HN HB0
  go_wp2_with (refine rw_put (α := Cv) _ 1 (.tmp 11) rfl rfl rfl rfl rfl rfl cv' rfl rfl ?_)
  go_ret
  exact ⟨rfl, HB3.out⟩
end Go.Proofs.YtokhnbdhcehonaaGreat
