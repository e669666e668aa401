/- index: index.without (printed by gen_bs.py off its template). -/
import Derived.Test.YtokhnbdhcehonaaGreatWiBase
set_option linter.unusedSimpArgs false
set_option linter.unusedVariables false
namespace Go.Proofs.YtokhnbdhcehonaaGreat
open Go Go.RowKit Row
set_option maxRecDepth 100000
set_option maxHeartbeats 16000000 in
theorem wo_Hd {l : List Hd} {v : Value} {B g : Nat} {lb : Array Value} {p : Hd → Bool} {w : World} (h : Rs w B v l) (hlen : l.length ≤ 1000) (hp : PB w.heap.size w g lb p) :
    Calls Tryz.prog 112 #[v, .func (.func g) #[] lb] w fun e w' => ∃ v', e = .returned v' ∧ Rs w' w.heap.size v' (l.filter fun x => !p x) ∧ Below w.heap.size w w' := by
  have HCL := Lib.hid (cl_Hd h hlen)
  have HP := Lib.hid hp
  obtain ⟨A, cap, hv, hlc, hcap⟩ := h.any
  subst hv
  clear h hp
  go_enter Tryz.func112, Tryz.ntmps112
  go_wp2_with fail
  refine HCL.out.mono ?_
  rintro e w2 ⟨v2, rfl, hr2, hb2⟩
  have HD := Lib.hid (dl_Hd (HP.out.on hb2) hb2.size hr2)
  have HB2 := Lib.hid hb2
  clear hr2 hb2
  go_wp2_with fail
  refine HD.out.mono ?_
  rintro e w3 ⟨v3, rfl, hr3, hb3⟩
  have HR3 := Lib.hid hr3
  have HB3 := Lib.hid (HB2.out.trans hb3)
  clear hr3 hb3
  go_wp2_with fail
  go_ret
  exact ⟨_, rfl, HR3.out, HB3.out⟩
set_option maxHeartbeats 16000000 in
theorem wo_Fl {l : List Fl} {v : Value} {B g : Nat} {lb : Array Value} {p : Fl → Bool} {w : World} (h : Rs w B v l) (hlen : l.length ≤ 1000) (hp : PB w.heap.size w g lb p) :
    Calls Tryz.prog 116 #[v, .func (.func g) #[] lb] w fun e w' => ∃ v', e = .returned v' ∧ Rs w' w.heap.size v' (l.filter fun x => !p x) ∧ Below w.heap.size w w' := by
  have HCL := Lib.hid (cl_Fl h hlen)
  have HP := Lib.hid hp
  obtain ⟨A, cap, hv, hlc, hcap⟩ := h.any
  subst hv
  clear h hp
  go_enter Tryz.func116, Tryz.ntmps116
  go_wp2_with fail
  refine HCL.out.mono ?_
  rintro e w2 ⟨v2, rfl, hr2, hb2⟩
  have HD := Lib.hid (dl_Fl (HP.out.on hb2) hb2.size hr2)
  have HB2 := Lib.hid hb2
  clear hr2 hb2
  go_wp2_with fail
  refine HD.out.mono ?_
  rintro e w3 ⟨v3, rfl, hr3, hb3⟩
  have HR3 := Lib.hid hr3
  have HB3 := Lib.hid (HB2.out.trans hb3)
  clear hr3 hb3
  go_wp2_with fail
  go_ret
  exact ⟨_, rfl, HR3.out, HB3.out⟩
set_option maxHeartbeats 16000000 in
theorem wo_Nm {l : List Nm} {v : Value} {B g : Nat} {lb : Array Value} {p : Nm → Bool} {w : World} (h : Rs w B v l) (hlen : l.length ≤ 1000) (hp : PB w.heap.size w g lb p) :
    Calls Tryz.prog 120 #[v, .func (.func g) #[] lb] w fun e w' => ∃ v', e = .returned v' ∧ Rs w' w.heap.size v' (l.filter fun x => !p x) ∧ Below w.heap.size w w' := by
  have HCL := Lib.hid (cl_Nm h hlen)
  have HP := Lib.hid hp
  obtain ⟨A, cap, hv, hlc, hcap⟩ := h.any
  subst hv
  clear h hp
  go_enter Tryz.func120, Tryz.ntmps120
  go_wp2_with fail
  refine HCL.out.mono ?_
  rintro e w2 ⟨v2, rfl, hr2, hb2⟩
  have HD := Lib.hid (dl_Nm (HP.out.on hb2) hb2.size hr2)
  have HB2 := Lib.hid hb2
  clear hr2 hb2
  go_wp2_with fail
  refine HD.out.mono ?_
  rintro e w3 ⟨v3, rfl, hr3, hb3⟩
  have HR3 := Lib.hid hr3
  have HB3 := Lib.hid (HB2.out.trans hb3)
  clear hr3 hb3
  go_wp2_with fail
  go_ret
  exact ⟨_, rfl, HR3.out, HB3.out⟩
set_option maxHeartbeats 16000000 in
theorem wo_Bl {l : List Bl} {v : Value} {B g : Nat} {lb : Array Value} {p : Bl → Bool} {w : World} (h : Rs w B v l) (hlen : l.length ≤ 1000) (hp : PB w.heap.size w g lb p) :
    Calls Tryz.prog 108 #[v, .func (.func g) #[] lb] w fun e w' => ∃ v', e = .returned v' ∧ Rs w' w.heap.size v' (l.filter fun x => !p x) ∧ Below w.heap.size w w' := by
  have HCL := Lib.hid (cl_Bl h hlen)
  have HP := Lib.hid hp
  obtain ⟨A, cap, hv, hlc, hcap⟩ := h.any
  subst hv
  clear h hp
  go_enter Tryz.func108, Tryz.ntmps108
  go_wp2_with fail
  refine HCL.out.mono ?_
  rintro e w2 ⟨v2, rfl, hr2, hb2⟩
  have HD := Lib.hid (dl_Bl (HP.out.on hb2) hb2.size hr2)
  have HB2 := Lib.hid hb2
  clear hr2 hb2
  go_wp2_with fail
  refine HD.out.mono ?_
  rintro e w3 ⟨v3, rfl, hr3, hb3⟩
  have HR3 := Lib.hid hr3
  have HB3 := Lib.hid (HB2.out.trans hb3)
  clear hr3 hb3
  go_wp2_with fail
  go_ret
  exact ⟨_, rfl, HR3.out, HB3.out⟩
end Go.Proofs.YtokhnbdhcehonaaGreat
