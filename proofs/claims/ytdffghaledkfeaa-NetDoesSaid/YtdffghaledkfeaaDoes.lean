/- NetDoes: the walk. -/
import Derived.Test.YtdffghaledkfeaaJoint
import Derived.Test.YtdffghaledkfeaaKnown
import Derived.Deep.RegionHeld3
namespace Go.Proofs.Ytdffghaledkfeaa
open Go Go.RowKit
set_option maxRecDepth 100000
def RdoAny : Prop := ∀ (w : World) (B r : Nat) (wv cv : Value) (x : Rs) (s : Stp), RefAt w B r wv cv x.way x.cl → B ≤ w.heap.size → x.cl.length < 1000 →
  Calls Try.prog 10 #[.pointer (some ⟨r, 0, none⟩), .agg #[.int .i64 s.k, .int .i64 s.i, .int .i64 s.p.f, .int .i64 s.p.t, .string s.p.d]] w (RDoV B r wv cv (x.step s) w)
/-- behind round k -/
structure Round (W w : World) (g mb r k : Nat) : Prop where
  has : ∃ c v V wv cv came y, c ≤ k ∧ y.cl.length ≤ k ∧ JS W w g mb c v V r wv cv came y
set_option maxHeartbeats 16000000 in
theorem does_walk (hrdo : RdoAny) (A : Option Addr) (L : List Stp) (cap : Nat) (hlen : L.length ≤ maxLen) (hall : ∀ x ∈ L, x.ok) (node : Int) (hnode : kok node) (w : World) (hs : StepsAt w A L) :
    Calls Try.prog 5 #[.slice A L.length cap, .int .i64 node] w fun e w' => e = .returned (.bool true) ∧ Below w.heap.size w w' := by
  have HL := Lib.hid (large_any A L cap w hlen hs hall)
  have HK := Lib.hid known_any
  have HNew := Lib.hid new_any
  have HS := Lib.hid hs
  have HAll := Lib.hid hall
  have HNode := Lib.hid hnode
  have HRdo := Lib.hid hrdo
  clear hs hall hrdo hnode
  go_enter Try.func5, Try.ntmps5
  go_wp2_with fail
  refine HL.out.mono ?_
  rintro e w1 ⟨b, rfl, rfl, hb80⟩
  cases b
  · have h80 := hb80 rfl
    clear hb80
    go_wp2_with fail
    refine (HNew.out _).mono ?_
    rintro e w2 ⟨g, mb, rfl, hb2, hN2⟩
    have HJ0 := Lib.hid (js_new hb2 hN2)
    clear hb2 hN2
    go_wp2_with fail
    go_loopw [7] (fun i wr => ∃ k : Nat, k ≤ L.length ∧ i = .int .i64 k ∧ Round w wr g mb w2.heap.size k) (fun i _ => L.length - (intOf i).toNat)
    case atStart => exact ⟨0, by omega, rfl, ⟨0, _, _, _, _, _, ⟨[], []⟩, Nat.le_refl _, Nat.le_refl _, HJ0.out⟩⟩
    case round =>
      obtain ⟨k, hk, rfl, ⟨c, v, V, wv, cv, came, y, hc, hy, hjs⟩⟩ := hrel
      have HJ := Lib.hid hjs
      clear hjs
      generalize hr : w2.heap.size = r at *
      by_cases hlt : k < L.length
      · obtain ⟨b, off, rfl, hbw, hst⟩ := HS.out.at_ hlt
        have hso := HAll.out L[k] (by simp)
        generalize L[k] = s at *
        obtain ⟨c0, c1, c2, c3, c4⟩ := hst.below HJ.out.bl hbw
        have hd := do_any HJ.out.na HJ.out.bl.size s hso.1 (by omega)
        have hlike := like_step (show Rel ⟨y.way, came⟩ y from ⟨rfl, HJ.out.rel⟩) s
        obtain ⟨d, hdd⟩ : ∃ d, d = Ns.step ⟨y.way, came⟩ s := ⟨_, rfl⟩
        obtain ⟨e, hee⟩ : ∃ e, e = Rs.step y s := ⟨_, rfl⟩
        rw [← hdd] at hd hlike
        rw [← hee] at hlike
        have HD := Lib.hid hd
        have HLike := Lib.hid hlike
        have HE := Lib.hid hee
        have HST := Lib.hid (And.intro hst hbw)
        clear hd hlike hdd hee hst
        go_wp2_with fail
        refine HD.out.mono ?_
        rintro e0 w3 ⟨rfl, c', v', V', hc', hT, hN⟩
        have hmid := HJ.out.impl hT hN
        have hal : Below w3.heap.size w3 (w3.alloc (.cells #[.int .i64 d.p.f, .int .i64 d.p.t, .string d.p.d] 23)) := by go_grown
        have hmid2 := hmid.below hal
        obtain ⟨a0, a1, a2, a3, a4⟩ := HST.out.1.below hmid2.bl HST.out.2
        have hrd := HRdo.out _ _ _ _ _ y s hmid2.ra hmid2.bl.size (by omega)
        rw [← HE.out] at hrd
        have HRD := Lib.hid hrd
        have HMid := Lib.hid hmid2
        have hrl : ∀ q, ROwn r wv cv q → q < w3.heap.size := fun q hq => hmid.ra.own_lt hq
        have HRl := Lib.hid hrl
        clear hmid hal hmid2 hrd hT hN hrl
        go_wp2_with fail
        refine HRD.out.mono ?_
        rintro e0 w4 ⟨rfl, wv', cv', hT2, hR2⟩
        rw [← HLike.out.p, ← HLike.out.n, ← HLike.out.b]
        obtain ⟨Aw, capw, rfl, _, _⟩ := hR2.row.sl.any
        have hjs := HMid.out.ref hT2 hR2 HLike.out.rel
        have h8 : w4.heap[w3.heap.size]? = some (pkObj d.p) := (hT2.keep _ (by rw [alloc_size]; omega) (fun e => by have := HRl.out _ e; omega)).trans (heap_alloc_new w3 (pkObj d.p))
        have h8l := heap_lt h8
        have hal : Below w4.heap.size w4 (w4.alloc (pkObj d.p)).drew := by unfold pkObj; go_grown
        have hcmp : Cmp w (w4.alloc (pkObj d.p)).drew g mb c' v' V' r (.slice Aw e.x.way.length capw) cv' d.x.came e.x w3.heap.size w4.heap.size d.p :=
          ⟨hjs.below hal, (hal.block _ h8l).trans h8, heap_alloc_new w4 (pkObj d.p)⟩
        have hlast := HLike.out.len
        have hfew := hR2.few
        have hcl : ∀ q, (e.x.cl.filter (toP q)).length ≤ 1000000 := fun q => Nat.le_trans (List.length_filter_le _ _) (by have := hR2.cfew; omega)
        have h8n : ¬ w3.heap.size = w4.heap.size := by omega
        generalize e.x = y' at *
        have HC0 := Lib.hid hcmp
        have HCL := Lib.hid hcl
        clear hT2 hR2 hjs h8 hal hcmp hcl
        unfold pkObj at HC0
        go_wp2_with fail
        go_region_held3 (fun w' => w'.cell? ⟨w3.heap.size, 0, none⟩ = some (.int .i64 d.p.f) ∧ w'.cell? ⟨w3.heap.size, 1, none⟩ = some (.int .i64 d.p.t) ∧ w'.cell? ⟨w3.heap.size, 2, none⟩ = some (.string d.p.d) ∧ w'.cell? ⟨w4.heap.size, 0, none⟩ = some (.int .i64 d.p.f) ∧ w'.cell? ⟨w4.heap.size, 1, none⟩ = some (.int .i64 d.p.t) ∧ w'.cell? ⟨w4.heap.size, 2, none⟩ = some (.string d.p.d) ∧ w'.cell? ⟨r, 0, none⟩ = some (.slice Aw y'.way.length capw))
          (first | exact h9.out.cells | exact h8.out.cells | exact h7.out.cells | exact h61.out.cells | exact h6.out.cells | exact HC0.out.cells)
          (first
            | (go_at_call 12; refine HC0.out.way.mono ?_; rintro e1 w6 ⟨A6, cap6, rfl, hr6, hb6⟩; have h6 := Lib.hid (HC0.out.below hb6); have hr6' := Lib.hid (hr6.sl.mono HC0.out.js.bl.size); clear hr6 hb6)
            | (go_at_call 17; refine (same_any A6 Aw cap6 capw _ w6 hr6'.out h6.out.js.ra.row (by omega)).mono ?_; rintro e1 w61 ⟨rfl, hb61⟩; have h61 := Lib.hid (h6.out.below hb61); clear hb61 hr6')
            | (go_at_call 18; refine (h61.out.cam HNode.out).mono ?_; rintro e1 w7 ⟨A7, cap7, rfl, hr7, hb7⟩; have h7 := Lib.hid (h61.out.below hb7); have hr7' := Lib.hid (hr7.sl.mono h61.out.js.bl.size); clear hr7 hb7)
            | (go_at_call 19; refine (h7.out.to node).mono ?_; rintro e1 w8 ⟨A8, cap8, rfl, hr8, hb8⟩; have h8 := Lib.hid (h7.out.below hb8); have hr78 := Lib.hid (hr7'.out.below hb8); have hr8' := Lib.hid (hr8.sl.mono h7.out.js.bl.size); clear hr8 hb8 hr7')
            | (go_at_call 17; refine (same_any A7 A8 cap7 cap8 _ w8 hr78.out hr8'.out (HCL.out _)).mono ?_; rintro e1 w9 ⟨rfl, hb9⟩; have h9 := Lib.hid (h8.out.below hb9); clear hb9 hr78 hr8'))
        all_goals
          go_wp2_with fail
          go_roundw
          case rel => exact ⟨k + 1, by omega, by go_num, ⟨c', v', V', _, _, _, y', by omega, by omega, h9.out.js⟩⟩
          case measure => simp [intOf]; omega
      · have HB := Lib.hid HJ.out.bl
        go_wp2_with fail
        refine (HK.out _).mono ?_
        rintro e0 w3 ⟨rfl, hb⟩
        have HB3 := Lib.hid (HB.out.trans (hb.mono HB.out.size))
        clear hb
        go_wp2_with fail
        go_returns
        exact ⟨rfl, HB3.out⟩
  · go_wp2_with fail
    refine (HK.out _).mono ?_
    rintro e0 w3 ⟨rfl, hb⟩
    have HB3 := Lib.hid hb
    clear hb
    go_wp2_with fail
    go_returns
    exact ⟨rfl, HB3.out⟩
end Go.Proofs.Ytdffghaledkfeaa
