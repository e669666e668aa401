/- index: the walk of IndexMakes. -/
import Derived.Test.YtokhnbdhcehonaaGreatEqCl
import Derived.Test.YtokhnbdhcehonaaGreatIcV
import Derived.Test.YtokhnbdhcehonaaGreatSame
import Derived.Test.YtokhnbdhcehonaaGreatLg
import Derived.Test.YtokhnbdhcehonaaGreatOpen18
set_option linter.unusedSimpArgs false
set_option linter.unusedVariables false
namespace Go.Proofs.YtokhnbdhcehonaaGreat
open Go Go.RowKit Row
set_option maxRecDepth 100000
/-- the first file's Up made another one -/
def bump (c : Ca) : Ca := match c.fs with
  | [] => c
  | f :: r => { c with fs := ⟨f.up ++ ⟨#[120]⟩, f.a⟩ :: r }
theorem bump_ne {c : Ca} (h : 0 < c.fs.length) : decide ((bump c).fs = c.fs) = false := by
  unfold bump
  cases hf : c.fs with
  | nil => rw [hf] at h; cases h
  | cons f r =>
    rw [decide_eq_false]
    intro e
    injection e with e1 e2
    have := congrArg (fun z : Fl => z.up.size) e1
    simp [ByteArray.size_append] at this
    exact absurd this (by decide)
/-- the boxes of IndexMakes: what was made, what its changes make, its copy -/
structure Mk (w K W : World) (g3 g4 g6 : Nat) (cv xv dv : Cv) (c d : Ca) : Prop where
  bl : Below w.heap.size w W
  b3 : W.heap[g3]? = some (.cells (arr cv) (RowT.T Cv))
  b4 : W.heap[g4]? = some (.cells (arr xv) (RowT.T Cv))
  b6 : W.heap[g6]? = some (.cells (arr dv) (RowT.T Cv))
  ws : w.heap.size ≤ K.heap.size
  kb : Below K.heap.size K W
  kc : CaAt K cv c
  kx : CaAt K xv c
  dc : CaAt W dv d
  df : Rs W K.heap.size dv.b.v d.fs
section
variable {w K W W' : World} {g3 g4 g6 : Nat} {cv xv dv : Cv} {c d : Ca}
theorem Mk.below (h : Mk w K W g3 g4 g6 cv xv dv c d) (hb : Below W.heap.size W W') : Mk w K W' g3 g4 g6 cv xv dv c d :=
  ⟨h.bl.trans (hb.mono h.bl.size), (hb.block _ (heap_lt h.b3)).trans h.b3, (hb.block _ (heap_lt h.b4)).trans h.b4, (hb.block _ (heap_lt h.b6)).trans h.b6, h.ws, h.kb.trans (hb.mono h.kb.size), h.kc, h.kx, h.dc.below hb, h.df.below hb⟩
theorem Mk.cc (h : Mk w K W g3 g4 g6 cv xv dv c d) : CaAt W cv c := h.kc.below h.kb
theorem Mk.xx (h : Mk w K W g3 g4 g6 cv xv dv c d) : CaAt W xv c := h.kx.below h.kb
/-- behind the store -/
theorem Mk.store (h : Mk w K W g3 g4 g6 cv xv dv c d) {b off n cap : Nat} (hv : dv.b.v = .slice (some ⟨b, off, none⟩) n cap) {fs : List Fl} (hr : Rs W' K.heap.size dv.b.v fs) (hg : W.grownBy W' (some b)) : Mk w K W' g3 g4 g6 cv xv dv c { d with fs := fs } := by
  have hb : dv.b.v.ownBlock = some b := by rw [hv]; rfl
  have hge : K.heap.size ≤ b := Rs.ge h.df b hb
  have off1 : ∀ {k : Nat} {C : Array Value} {t : TypeId}, W.heap[k]? = some (.cells C t) → t ≠ RowT.T Fl → (some b : Option Nat) ≠ some k := fun {k} {C} {t} hk ht => by rw [← hb]; exact Sl.off h.df hk ht
  have box : ∀ {k : Nat} {z : Cv}, W.heap[k]? = some (.cells (arr z) (RowT.T Cv)) → W'.heap[k]? = some (.cells (arr z) (RowT.T Cv)) := fun {k} {z} hk => (hg.block _ (heap_lt hk) (fun e => off1 hk (by decide) e.symm)).trans hk
  have hd : ∃ C, W.heap[b]? = some (.cells C (RowT.T Fl)) := by
    rcases h.df.2 with ⟨h0, _⟩ | ⟨b', off', cap', cur, he, hB, hgb, _⟩
    · rw [hv] at h0; cases h0
    · rw [hv] at he; cases he; exact ⟨_, hgb⟩
  obtain ⟨C, hC⟩ := hd
  refine ⟨h.bl.grown hg h.bl.size (fun j hj => by cases hj; exact Nat.le_trans h.ws hge), box h.b3, box h.b4, box h.b6, h.ws, h.kb.grown hg h.kb.size (fun j hj => by cases hj; exact hge), h.kc, h.kx, ?_, hr⟩
  exact ⟨h.dc.hs.grown hg hC (by decide), hr.mono (Nat.zero_le _), h.dc.ns.grown hg hC (by decide), h.dc.bs.grown hg hC (by decide)⟩
end
/-- a store of one file's Up -/
theorem turn_up {w : World} {B : Nat} {o : Oper} {a : Act} {K : Value → World → Prop} (x y : Operand) (ho : o.op = .store 9 x y) {b off cap N : Nat} {f : Fl} {r : List Fl} (hN : N = (f :: r).length) (h : Rs w B (.slice (some ⟨b, off, none⟩) N cap) (f :: r)) (u : ByteArray)
    (hx : a.eval x = .pointer (some ⟨b, off, none⟩)) (hy : a.eval y = .string u)
    (hK : ∀ w', Rs w' B (.slice (some ⟨b, off, none⟩) N cap) (⟨u, f.a⟩ :: r) → w.grownBy w' (some b) → K undef w') : effR Tryz.prog K ((execOp a.eval o).run Tryz.prog w) := by
  subst hN
  have hth := h.there (j := 0) (by simp) 0 Row.pos
  simp only [Nat.zero_mul, Nat.add_zero] at hth
  have hr := run_storeVar_cell (P := Tryz.prog) w b off 9 (.string u) hth.1 hth.2 size9 rfl
  unfold execOp
  simp only [ho, hx, hy, Instr.storeAt, Instr.sureAddr, Sem.run_bind, Sem.run_pure, Result.andThen_ok, hr]
  refine hK _ ?_ (setCells_grown b [.string u] off w)
  have h2 := Sl.blit h (o := 0) (cs := [.string u]) (by simp [enc, cells, Fl.cells])
  simp only [Nat.add_zero] at h2
  exact h2
theorem gives_add {w : World} {o : Oper} {a : Act} {K : World → Prop} (x y : Operand) (t : TypeId) (ho : o.op = .binOp .add 9 x y t) (p q : ByteArray) (hx : a.eval x = .string p) (hy : a.eval y = .string q) (hs : p.size + q.size ≤ 9223372036854775807) (hK : K w) : givesR Tryz.prog K (.string (p ++ q)) ((execOp a.eval o).run Tryz.prog w) := by
  unfold execOp
  simp only [ho, hx, hy, Sem.run_bind, Sem.run_pure, Result.andThen_ok, eqGuard_add, binOp_string_add, run_string_add_sum (h := hs)]
  exact ⟨rfl, hK⟩
theorem va_up {c : Ca} (h : Va c) : ∀ f ∈ c.fs, f.up.size ≤ 64 := fun f hf => by
  have := (h.of f hf).1
  simp [flC, chkR, restR, hasS, hasB, codes, numB, txtB, txtP] at this
  have := of_decide_eq_true this.2.2
  omega
theorem rs_cons {w : World} {v : Value} {B : Nat} {l : List Fl} (h : Rs w B v l) (hp : 0 < l.length) : ∃ f r, l = f :: r := by
  cases l with
  | nil => cases hp
  | cons f r => exact ⟨f, r, rfl⟩
def MkV (w : World) (r : Ending) (w' : World) : Prop := r = .returned (.bool true) ∧ Below w.heap.size w w'
set_option maxHeartbeats 32000000 in
theorem makes_walk {m : List Ch} {u : Value} {w : World} (hm : Ro w u m) (hok : ∀ x ∈ m, x.ok) : Calls Tryz.prog 5 #[u] w (MkV w) := by
  have HM := Lib.hid hm
  have HOK := Lib.hid hok
  have HLM := Lib.hid (large_any hm)
  obtain ⟨Am, capm, hvm, hlcm, hcapm⟩ := hm.any
  subst hvm
  clear hm hok
  have hm63 : maxLen = 9223372036854775807 := rfl
  go_enter Tryz.func5, Tryz.ntmps5
  go_wp2_with fail
  refine HLM.out.mono ?_
  rintro r w1 ⟨b, rfl, hb40, hww⟩
  obtain rfl := hww
  have H40 := Lib.hid hb40
  clear hb40 HLM
  cases b with
  | true =>
    go_wp2_with fail
    refine (kn_any _).mono ?_
    rintro r w2 ⟨rfl, hb2⟩
    go_wp2_with fail
    go_ret
    exact ⟨rfl, hb2⟩
  | false =>
  have HM40 : Hid (m.length ≤ 40) := Lib.hid (H40.out rfl)
  have HMD := Lib.hid (made_any HM.out (Nat.le_trans HM40.out (by decide)))
  have hmo := madeC_ok m m.length (Nat.le_refl _)
  rw [List.take_length] at hmo
  have HFE := Lib.hid (hmo.2.up (Nat.le_trans HM40.out (show 40 ≤ 100 by decide)))
  have HAG := Lib.hid (made_again (made_va HOK.out))
  have HSZ := Lib.hid (va_up (made_va HOK.out))
  have HTO : Hid ((chgC (madeC m)).length ≤ 50) := Lib.hid (by rw [chg_len]; exact Nat.le_trans (tot_made m) (Nat.le_trans HM40.out (by decide)))
  clear hmo
  generalize madeC m = c at HMD HFE HAG HTO HSZ
  go_wp2_with fail
  refine HMD.out.mono ?_
  rintro r w3 ⟨cv, rfl, hca, hb3⟩
  have HB3 := Lib.hid (hb3.trans (bel_box (o := .cells (arr cv) (RowT.T Cv)) |>.mono hb3.size))
  have HC3 := Lib.hid (hca.below (bel_box (o := .cells (arr cv) (RowT.T Cv))))
  have HX3 := Lib.hid (heap_alloc_new w3 (.cells (arr cv) (RowT.T Cv)))
  have HIC := Lib.hid (ichanges_any HC3.out HFE.out)
  obtain ⟨g, hg⟩ : ∃ g, g = w3.heap.size := ⟨_, rfl⟩
  clear hca hb3 HMD
  go_wp2_with (first
    | (refine rw_put (α := Cv) _ 3 (.tmp 11) rfl rfl rfl rfl rfl rfl cv rfl rfl ?_)
    | (refine rw_load (α := Cv) rfl (.tmp 3) rfl w3.heap.size 0 rfl cv (range_row HX3.out) ?_))
  rw [← hg]
  rw [← hg] at HX3
  clear hg
  refine HIC.out.mono ?_
  rintro r w4 ⟨lv, rfl, hr4, hb4⟩
  have HB4 := Lib.hid (HB3.out.trans (hb4.mono HB3.out.size))
  have HC4 := Lib.hid (HC3.out.below hb4)
  have HX4 := Lib.hid ((hb4.block _ (heap_lt HX3.out)).trans HX3.out)
  have HAL := Lib.hid (all_any (ca0_at w4) (ca0_few 900) ca0_rises hr4 HTO.out)
  rw [HAG.out] at HAL
  simp only [Option.isSome_some, Option.getD_some] at HAL
  obtain ⟨Ac, kc, hvc, hlc, hcc⟩ := hr4.any
  subst hvc
  clear hr4 hb4 HIC
  go_wp2_with fail
  refine HAL.out.mono ?_
  rintro r w5 ⟨xv, rfl, hx5, hb5⟩
  have HB5 := Lib.hid (HB4.out.trans ((hb5.trans (bel_box (o := .cells (arr xv) (RowT.T Cv)) |>.mono hb5.size)).mono HB4.out.size))
  have HC5 := Lib.hid ((HC4.out.below hb5).below (bel_box (o := .cells (arr xv) (RowT.T Cv))))
  have HX5 := Lib.hid (heap_old_at (o := .cells (arr xv) (RowT.T Cv)) ((hb5.block _ (heap_lt HX4.out)).trans HX4.out))
  have HD5 := Lib.hid (hx5.below (bel_box (o := .cells (arr xv) (RowT.T Cv))))
  have HY5 := Lib.hid (heap_alloc_new w5 (.cells (arr xv) (RowT.T Cv)))
  have HCL := Lib.hid (clone_any HC5.out HFE.out)
  obtain ⟨g4, hg4⟩ : ∃ g, g = w5.heap.size := ⟨_, rfl⟩
  clear hx5 hb5 HAL
  go_wp2_with (first
    | (refine rw_put (α := Cv) _ 4 (.tmp 17) rfl rfl rfl rfl rfl rfl xv rfl rfl ?_)
    | (refine rw_load (α := Cv) rfl (.tmp 3) rfl g 0 rfl cv (range_row HX5.out) ?_))
  obtain ⟨K, hK⟩ : ∃ K, K = w5.alloc (.cells (arr xv) (RowT.T Cv)) := ⟨_, rfl⟩
  rw [← hK] at HB5 HC5 HX5 HD5 HY5 HCL ⊢
  rw [← hg4] at HY5 ⊢
  clear hK hg4
  refine HCL.out.mono ?_
  rintro r w6 ⟨dv, rfl, hd6, hdf, hb6⟩
  have hk6 : Below K.heap.size K (w6.alloc (.cells (arr dv) (RowT.T Cv))) := hb6.trans (bel_box.mono hb6.size)
  have HMK : Hid (Mk w1 K (w6.alloc (.cells (arr dv) (RowT.T Cv))) g g4 w6.heap.size cv xv dv c c) := Lib.hid
    ⟨HB5.out.trans (hk6.mono HB5.out.size), (hk6.block _ (heap_lt HX5.out)).trans HX5.out, (hk6.block _ (heap_lt HY5.out)).trans HY5.out, heap_alloc_new _ _, HB5.out.size, hk6, HC5.out, HD5.out, hd6.below bel_box, hdf.below bel_box⟩
  obtain ⟨g6, hg6⟩ : ∃ g, g = w6.heap.size := ⟨_, rfl⟩
  rw [← hg6] at HMK
  have HS1 := Lib.hid (fun W (h : Mk w1 K W g g4 g6 cv xv dv c c) => same_self h.xx h.cc HFE.out)
  have HS2 := Lib.hid (fun W (h : Mk w1 K W g g4 g6 cv xv dv c c) => same_self h.dc h.cc HFE.out)
  have HS3 := Lib.hid (fun W d (h : Mk w1 K W g g4 g6 cv xv dv c d) => isame_any h.xx h.cc)
  have HS4 := Lib.hid (fun W d (h : Mk w1 K W g g4 g6 cv xv dv c d) => isame_any h.dc h.cc)
  simp only [decide_true, Bool.and_true] at HS3
  clear hd6 hdf hb6 hk6 HCL HC5 HX5 HD5 HY5 HB5 HB4 HB3
  go_wp2_with (first
    | (refine rw_put (α := Cv) _ 6 (.tmp 20) rfl rfl rfl rfl rfl rfl dv rfl rfl ?_)
    | (refine rg_load (α := Cv) rfl (.tmp 4) rfl g4 0 rfl xv (range_row HMK.out.b4) ?_)
    | (refine rg_load (α := Cv) rfl (.tmp 3) rfl g 0 rfl cv (range_row HMK.out.b3) ?_))
  rw [← hg6]
  clear hg6
  refine (HS1.out _ HMK.out).mono ?_
  rintro r w7 ⟨rfl, hb7⟩
  have HMK7 := Lib.hid (HMK.out.below hb7)
  clear hb7 HMK
  go_wp2_with (first
    | (refine rg_load (α := Cv) rfl (.tmp 6) rfl g6 0 rfl dv (range_row HMK7.out.b6) ?_)
    | (refine rg_load (α := Cv) rfl (.tmp 3) rfl g 0 rfl cv (range_row HMK7.out.b3) ?_))
  refine (HS2.out _ HMK7.out).mono ?_
  rintro r w8 ⟨rfl, hb8⟩
  have HMK8 := Lib.hid (HMK7.out.below hb8)
  clear hb8 HMK7
  go_wp2_with (first
    | (refine rg_load (α := Cv) rfl (.tmp 4) rfl g4 0 rfl xv (range_row HMK8.out.b4) ?_)
    | (refine rg_load (α := Cv) rfl (.tmp 3) rfl g 0 rfl cv (range_row HMK8.out.b3) ?_))
  refine (HS3.out _ c HMK8.out).mono ?_
  rintro r w9 ⟨rfl, hb9⟩
  have HMK9 := Lib.hid (HMK8.out.below hb9)
  clear hb9 HMK8
  obtain ⟨-, e1, -, -⟩ := cv_cells HMK9.out.b6
  obtain ⟨Af, kf, hvf, hlf, hcf⟩ := HMK9.out.df.any
  by_cases hp : 0 < c.fs.length
  · have hpI : (0 : Int) < (c.fs.length : Int) := by omega
    obtain ⟨b, off, kf', he, hlf', hcf'⟩ := HMK9.out.df.shape hp
    obtain ⟨f, rs, hfr⟩ := rs_cons HMK9.out.df hp
    have HBN := Lib.hid (bump_ne hp)
    have HBU : Hid (({ c with fs := (⟨f.up ++ ⟨#[120]⟩, f.a⟩ : Fl) :: rs } : Ca) = bump c) := Lib.hid (by unfold bump; rw [hfr])
    obtain ⟨N, hN⟩ : ∃ N, N = c.fs.length := ⟨_, rfl⟩
    have HHN : Hid (N = (f :: rs).length) := Lib.hid (by rw [hN, hfr])
    have hrf := HMK9.out.df
    have HE0 : Hid (dv.b.v = .slice (some ⟨b, off, none⟩) N kf') := Lib.hid (by rw [hN]; exact he)
    have HFS : Hid (f.up.size + (⟨#[120]⟩ : ByteArray).size ≤ 9223372036854775807) := Lib.hid (by
      have h1 := HSZ.out f (by rw [hfr]; simp)
      have h2 : (⟨#[120]⟩ : ByteArray).size = 1 := rfl
      omega)
    rw [he, hfr, ← hfr, ← hN] at hrf
    rw [hfr] at hrf
    have HRF := Lib.hid hrf
    rw [he, ← hN] at e1
    rw [← hN] at hpI
    have HUP : Hid (∀ wS, Below w9.heap.size w9 wS → wS.cell? ⟨b, off, none⟩ = some (.string f.up)) := Lib.hid (fun wS hS => by
      have h1 := HRF.out.below hS
      rw [HHN.out] at h1
      have h2 := h1.range (j := 0) (by simp) 0 (.string f.up) rfl
      simpa using h2)
    have HC6 : Hid (∀ wS, Below w9.heap.size w9 wS → wS.cell? ⟨g6, 1, none⟩ = some (.slice (some ⟨b, off, none⟩) N kf')) := Lib.hid (fun wS hS => by
      obtain ⟨-, h1, -, -⟩ := cv_cells ((HMK9.out.below hS).b6)
      rwa [HE0.out] at h1)
    clear he hrf hfr hp hN hlf'
    go_wp2_with fail
    refine E.wp_region_flow2_lit [(0, false), (1, false), (2, false), (3, false), (4, false), (5, false), (6, false), (7, false), (8, false), (9, false), (10, true)] (fun wS => Below w9.heap.size w9 wS) (by kernel_rfl) (by kernel_rfl) (by kernel_rfl) (Below.refl _ _).drew ?_
    repeat (first | (refine' E.flow2_pass (o := _) rfl _ _; (focus rfl); simp only [Act.put, List.setIfInBounds_toArray, List.set_cons_zero, List.set_cons_succ]) | (refine' E.flow2_take (v := _) (o := _) rfl _ _ _; rotate_left; (focus rfl); (focus (intro wS hS; have hE := Ext.refl wS; (have hc6 := HC6.out wS hS; have hup := HUP.out wS hS); go_simp; try (with_reducible (first | exact ⟨rfl, hS, hE⟩ | rfl)); done)); simp only [Act.put, List.setIfInBounds_toArray, List.set_cons_zero, List.set_cons_succ]))
    (refine E.flow2_take (v := .string (f.up ++ ⟨#[120]⟩)) (o := _) rfl rfl (fun wS hS => gives_add (.tmp 51) (.const (.string ⟨#[120]⟩)) 9 rfl f.up ⟨#[120]⟩ rfl rfl HFS.out ⟨hS, Ext.refl wS⟩) ?_; simp only [Act.put, List.setIfInBounds_toArray, List.set_cons_zero, List.set_cons_succ])
    repeat (first | (refine' E.flow2_pass (o := _) rfl _ _; (focus rfl); simp only [Act.put, List.setIfInBounds_toArray, List.set_cons_zero, List.set_cons_succ]) | (refine' E.flow2_take (v := _) (o := _) rfl _ _ _; rotate_left; (focus rfl); (focus (intro wS hS; have hE := Ext.refl wS; (have hc6 := HC6.out wS hS; have hup := HUP.out wS hS); go_simp; try (with_reducible (first | exact ⟨rfl, hS, hE⟩ | rfl)); done)); simp only [Act.put, List.setIfInBounds_toArray, List.set_cons_zero, List.set_cons_succ]))
    refine E.flow2_last (o := _) rfl rfl ?_
    intro wX hE hS Kt hK
    refine turn_up (.tmp 54) (.tmp 52) rfl HHN.out (HRF.out.below hS) (f.up ++ ⟨#[120]⟩) rfl rfl ?_
    intro w10 hr10 hg10
    refine hK _ _ ?_
    have HMKA := Lib.hid ((HMK9.out.below hS).store (fs := ⟨f.up ++ ⟨#[120]⟩, f.a⟩ :: rs) HE0.out (by rw [HE0.out]; exact hr10) hg10)
    rw [HBU.out] at HMKA
    have HS5 := Lib.hid (HS4.out _ _ HMKA.out)
    rw [HBN.out] at HS5
    simp only [Bool.false_and, Bool.and_false] at HS5
    clear hE hS hK Kt hr10 hg10
    simp only [Act.put, List.setIfInBounds_toArray, List.set_cons_zero, List.set_cons_succ]
    go_wp2_with (first
      | (refine rg_load (α := Cv) rfl (.tmp 6) rfl g6 0 rfl dv (range_row HMKA.out.b6) ?_)
      | (refine rg_load (α := Cv) rfl (.tmp 3) rfl g 0 rfl cv (range_row HMKA.out.b3) ?_))
    refine HS5.out.mono ?_
    rintro r w11 ⟨rfl, hb11⟩
    have HMK11 := Lib.hid (HMKA.out.below hb11)
    clear hb11 HMKA
    go_wp2_with (first
      | (refine rg_load (α := Cv) rfl (.tmp 4) rfl g4 0 rfl xv (range_row HMK11.out.b4) ?_)
      | (refine rg_load (α := Cv) rfl (.tmp 3) rfl g 0 rfl cv (range_row HMK11.out.b3) ?_))
    refine (HS3.out _ _ HMK11.out).mono ?_
    rintro r w12 ⟨rfl, hb12⟩
    have HMK12 := Lib.hid (HMK11.out.below hb12)
    clear hb12 HMK11
    go_wp2_with fail
    refine (kn_any _).mono ?_
    rintro r w13 ⟨rfl, hb13⟩
    have HB13 := Lib.hid (HMK12.out.bl.trans (hb13.mono HMK12.out.bl.size))
    clear hb13
    go_wp2_with fail
    go_ret
    exact ⟨rfl, HB13.out⟩
  · have hpI : ¬ (0 : Int) < (c.fs.length : Int) := by omega
    rw [hvf] at e1
    go_wp2_with fail
    refine (kn_any _).mono ?_
    rintro r w10 ⟨rfl, hb10⟩
    have HB10 := Lib.hid (HMK9.out.bl.trans (hb10.mono HMK9.out.bl.size))
    clear hb10
    go_wp2_with fail
    go_ret
    exact ⟨rfl, HB10.out⟩
theorem makes_all (A : Option Addr) (M : List Ch) (cap : Nat) (hc : M.length ≤ cap) (hm : cap ≤ maxLen) (hM : ∀ x ∈ M, x.ok) (w : World) (hs : RowsAt w A 18 (M.map cells)) :
    Calls Tryz.prog 5 #[.slice A M.length cap] w fun e w' => e = .returned (.bool true) ∧ Below w.heap.size w w' := makes_walk (ro_of hc hm hs) hM
end Go.Proofs.YtokhnbdhcehonaaGreat
