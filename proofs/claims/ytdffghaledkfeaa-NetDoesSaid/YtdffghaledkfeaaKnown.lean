/- posthouselaw25: known. -/
import Derived.Test.YtdffghaledkfeaaDo
namespace Go.Proofs.Ytdffghaledkfeaa
open Go Go.RowKit
set_option maxRecDepth 100000
def pa : Pk := ⟨1, 2, ⟨#[97]⟩⟩
def pb : Pk := ⟨1, 2, ⟨#[98]⟩⟩
def came0 : Int → List Pk := fun _ => []
theorem send_k {w : World} {B g mb c : Nat} {v : Value} {V : Int → Value} {way way' : List Pk} {came : Int → List Pk} (h : NetAt w B g mb c v V way came) (hB : B ≤ w.heap.size) (p : Pk) (hm : May way p) (he : way ++ [p] = way') :
    Calls Try.prog 9 #[.pointer (some ⟨g, 0, none⟩), .agg #[.int .i64 p.f, .int .i64 p.t, .string p.d]] w fun e w' => ∃ v', e = .returned (.bool true) ∧ Turn g mb w w' v v' V V ∧ NetAt w' B g mb c v' V way' came := by
  refine (send_yes h hB p hm).mono ?_
  rintro e w' ⟨v', rfl, hT, hN⟩
  rw [if_pos hm, he] at hN
  exact ⟨v', by rw [decide_eq_true hm], hT, hN⟩
theorem deliver_k {w : World} {B g mb c : Nat} {v : Value} {V : Int → Value} {way : List Pk} {came : Int → List Pk} (h : NetAt w B g mb c v V way came) (hB : B ≤ w.heap.size) (k : Nat) (hk : k < way.length) {p : Pk} (he : way[k] = p) (hok : kok p.t) (hf : (came p.t).length < 64) (hc : c + 1 ≤ 1000000) {way' : List Pk} {came' : Int → List Pk} (h1 : out way k = way') (h2 : upd came p.t (came p.t ++ [p]) = came') :
    Calls Try.prog 11 #[.pointer (some ⟨g, 0, none⟩), .int .i64 k] w fun e w' => ∃ v' u, e = .returned (.bool true) ∧ Turn g mb w w' v v' V (upd V p.t u) ∧ NetAt w' B g mb (c + 1) v' (upd V p.t u) way' came' := by
  subst he h1 h2
  exact deliver_yes h hB k hk hok hf hc
set_option maxHeartbeats 4000000 in
theorem known_any (w : World) : Calls Try.prog 7 #[] w fun e w' => e = .returned (.bool true) ∧ Below w.heap.size w w' := by
  go_enter Try.func7, Try.ntmps7
  go_wp2_with fail
  refine (new_any _).mono ?_
  rintro e w1 ⟨g, mb, rfl, hb1, hN1⟩
  have hB1 : w.heap.size ≤ w1.heap.size := hb1.size
  have HC1 := Lib.hid (send_k (way' := [pa]) hN1 hB1 pa (by decide) rfl)
  have HB1 := Lib.hid hb1
  have HN1 := Lib.hid hN1
  clear hN1 hb1
  go_wp2_with fail
  refine HC1.out.mono ?_
  rintro e w2 ⟨v2, rfl, hT2, hN2⟩
  have hb2 : Below w.heap.size w w2 := HB1.out.trans (hT2.below HN1.out hB1)
  have HC2 := Lib.hid (send_k (way' := [pa, pb]) hN2 hb2.size pb (by decide) rfl)
  have HB2 := Lib.hid hb2
  have HN2 := Lib.hid hN2
  clear hN2 hb2 hT2 hB1 HC1
  go_wp2_with fail
  refine HC2.out.mono ?_
  rintro e w3 ⟨v3, rfl, hT3, hN3⟩
  have hb3 : Below w.heap.size w w3 := HB2.out.trans (hT3.below HN2.out HB2.out.size)
  have HC3 := Lib.hid (deliver_k (p := pb) hN3 hb3.size 1 (by decide) rfl (kok_of (by decide)) (by decide) (by decide) (way' := [pa]) rfl rfl)
  have HB3 := Lib.hid hb3
  have HN3 := Lib.hid hN3
  clear hN3 hb3 hT3 HC2
  go_wp2_with fail
  refine HC3.out.mono ?_
  rintro e w4 ⟨v4, u, rfl, hT4, hN4⟩
  have hb4 : Below w.heap.size w w4 := HB3.out.trans (hT4.below HN3.out HB3.out.size)
  have HC4 := Lib.hid (next_some (k := 2) (p := pb) (r := []) hN4 (kok_of (by decide)) rfl (by decide))
  unfold pb at HC4
  have HB4 := Lib.hid hb4
  have HN4 := Lib.hid hN4
  clear hN4 hb4 hT4 HC3
  go_wp2_with fail
  refine HC4.out.mono ?_
  rintro e w5 ⟨u5, rfl, hT5, hN5⟩
  have hb5 : Below w.heap.size w w5 := HB4.out.trans (hT5.below HN4.out HB4.out.size)
  have hbl : Below w5.heap.size w5 (w5.alloc (.cells #[.int .i64 1, .int .i64 2, .string ⟨#[98]⟩] 23)) := by go_grown
  have HC5 := Lib.hid (way_any (hN5.below hbl))
  have HB5 := Lib.hid (hb5.trans (hbl.mono hb5.size))
  clear hN5 hb5 hT5 HC4 hbl
  go_wp2_with fail
  refine HC5.out.mono ?_
  rintro e w6 ⟨A, cap, rfl, hr, hb6⟩
  have HB6 := Lib.hid (HB5.out.trans (hb6.mono HB5.out.size))
  clear hr hb6
  go_wp2_with fail
  go_returns
  exact ⟨rfl, HB6.out⟩
end Go.Proofs.Ytdffghaledkfeaa
