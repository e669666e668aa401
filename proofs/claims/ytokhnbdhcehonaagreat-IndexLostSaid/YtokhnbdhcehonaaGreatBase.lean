/- index: the document's places. -/
import Derived.Test.YtokhnbdhcehonaaGreatKnown
import Derived.Test.YtokhnbdhcehonaaGreatFlowE
set_option linter.unusedSimpArgs false
set_option linter.unusedVariables false
namespace Go.Proofs.YtokhnbdhcehonaaGreat
open Go Go.RowKit Row
set_option maxRecDepth 100000
/-- the first place of one that p holds of; below 0: there is none -/
def plc {α : Type} (p : α → Bool) (l : List α) : Int := match l.findIdx? p with | some i => (i : Int) | none => -1
theorem plc_hit {α : Type} {p : α → Bool} {l : List α} {i : Nat} (hi : i < l.length) (h : ∀ y ∈ l.take i, p y = false) (he : p l[i] = true) : plc p l = i := by
  have : l.findIdx? p = some i := List.findIdx?_eq_some_iff_getElem.2 ⟨hi, he, fun j hj => by
    have := h l[j] (List.mem_take_iff_getElem.2 ⟨j, by omega, rfl⟩)
    simp [this]⟩
  simp [plc, this]
theorem plc_miss {α : Type} {p : α → Bool} {l : List α} (h : ∀ y ∈ l, p y = false) : plc p l = -1 := by
  have : l.findIdx? p = none := List.findIdx?_eq_none_iff.2 h
  simp [plc, this]
theorem plc_cases {α : Type} (p : α → Bool) (l : List α) : (∃ i : Nat, ∃ hi : i < l.length, plc p l = i ∧ p l[i] = true ∧ ∀ y ∈ l.take i, p y = false) ∨ (plc p l = -1 ∧ ∀ y ∈ l, p y = false) := by
  cases h : l.findIdx? p with
  | none => exact .inr ⟨by simp [plc, h], List.findIdx?_eq_none_iff.1 h⟩
  | some i =>
    obtain ⟨hi, he, hno⟩ := List.findIdx?_eq_some_iff_getElem.1 h
    refine .inl ⟨i, hi, by simp [plc, h], he, fun y hy => ?_⟩
    obtain ⟨j, hj, rfl⟩ := List.mem_take_iff_getElem.1 hy
    simpa using hno j (by omega)
theorem take_next {α : Type} {p : α → Bool} {l : List α} {i : Nat} (hi : i < l.length) (h : ∀ y ∈ l.take i, p y = false) (he : p l[i] = false) : ∀ y ∈ l.take (i + 1), p y = false := fun y hy => by
  rw [List.take_succ_eq_append_getElem hi] at hy
  rcases List.mem_append.1 hy with h1 | h1
  · exact h y h1
  · rw [List.mem_singleton.1 h1]; exact he
set_option maxHeartbeats 4000000 in
theorem pfile_any {l : List Fl} {cv : Cv} {w : World} (h : Rs w 0 cv.b.v l) (u : ByteArray) :
    Calls Tryz.prog 20 #[.agg (arr cv), .string u] w fun r w' => r = .returned (.int .i64 (plc (fun y => decide (kF y = u)) l)) ∧ Below w.heap.size w w' := by
  have hb0 : Below w.heap.size w (w.alloc (.cells (arr cv) 30)) := bel_box
  have c1 := (cv_cells (heap_alloc_new w (.cells (arr cv) 30))).2.1
  have hr := h.below hb0
  obtain ⟨A, cap, hv, hlc, hcap⟩ := hr.any
  rw [hv] at c1
  rw [hv] at hr
  have HR := Lib.hid hr
  have HB := Lib.hid hb0
  clear h hv hr hb0
  obtain ⟨r, hfr⟩ : ∃ r, r = plc (fun y => decide (kF y = u)) l := ⟨_, rfl⟩
  rw [← hfr]
  have HFR := Lib.hid hfr
  clear hfr
  have hm63 : maxLen = 9223372036854775807 := rfl
  go_enter Tryz.func20, Tryz.ntmps20
  go_wp2_with fail
  go_loop [5] (fun i => ∃ k : Nat, k ≤ l.length ∧ i = .int .i64 k ∧ (∀ y ∈ l.take k, decide (kF y = u) = false)) (fun i => l.length - (intOf i).toNat)
  case atStart => exact ⟨0, by omega, rfl, fun y hy => by simp at hy⟩
  case round =>
    obtain ⟨k, hk, rfl, hno⟩ := hrel
    have HN := Lib.hid hno
    clear hno
    by_cases hlt : k < l.length
    · have hltI : (k : Int) < (l.length : Int) := by omega
      obtain ⟨b, off, cap', he, _, _⟩ := HR.out.shape (by omega)
      cases he
      have r0 : (w.alloc (.cells (arr cv) 30)).cell? ⟨b, off + k * 11, none⟩ = some (.string l[k].up) := HR.out.range hlt 0 _ rfl
      by_cases hu0 : l[k].up = u
      · have e0 := (str_eq l[k].up u).trans (decide_eq_true hu0)
        obtain rfl := HFR.out.trans (plc_hit hlt HN.out (by simp [hu0]))
        clear hu0
        go_wp2_with fail
        go_ret
        exact ⟨rfl, HB.out⟩
      · have e0 := (str_eq l[k].up u).trans (decide_eq_false hu0)
        have HU : Hid (decide (kF l[k] = u) = false) := Lib.hid (by simp [hu0])
        clear hu0
        go_wp2_with fail
        go_round
        case rel => exact ⟨k + 1, by omega, by go_num, take_next hlt HN.out HU.out⟩
        case measure => simp [intOf]; omega
    · have hltI : ¬ (k : Int) < (l.length : Int) := by omega
      obtain rfl : k = l.length := by omega
      have HM := HN.out
      rw [List.take_length] at HM
      obtain rfl := HFR.out.trans (plc_miss HM)
      clear HM HN
      go_wp2_with fail
      go_ret
      exact ⟨rfl, HB.out⟩
set_option maxHeartbeats 4000000 in
theorem pname_any {l : List Nm} {cv : Cv} {w : World} (h : Rs w 0 cv.c.v l) (d : ByteArray) (m : ByteArray) :
    Calls Tryz.prog 22 #[.agg (arr cv), .string d, .string m] w fun r w' => r = .returned (.int .i64 (plc (fun y => decide (kN y = (d, m))) l)) ∧ Below w.heap.size w w' := by
  have hb0 : Below w.heap.size w (w.alloc (.cells (arr cv) 30)) := bel_box
  have c1 := (cv_cells (heap_alloc_new w (.cells (arr cv) 30))).2.2.1
  have hr := h.below hb0
  obtain ⟨A, cap, hv, hlc, hcap⟩ := hr.any
  rw [hv] at c1
  rw [hv] at hr
  have HR := Lib.hid hr
  have HB := Lib.hid hb0
  clear h hv hr hb0
  obtain ⟨r, hfr⟩ : ∃ r, r = plc (fun y => decide (kN y = (d, m))) l := ⟨_, rfl⟩
  rw [← hfr]
  have HFR := Lib.hid hfr
  clear hfr
  have hm63 : maxLen = 9223372036854775807 := rfl
  go_enter Tryz.func22, Tryz.ntmps22
  go_wp2_with fail
  go_loop [7] (fun i => ∃ k : Nat, k ≤ l.length ∧ i = .int .i64 k ∧ (∀ y ∈ l.take k, decide (kN y = (d, m)) = false)) (fun i => l.length - (intOf i).toNat)
  case atStart => exact ⟨0, by omega, rfl, fun y hy => by simp at hy⟩
  case round =>
    obtain ⟨k, hk, rfl, hno⟩ := hrel
    have HN := Lib.hid hno
    clear hno
    by_cases hlt : k < l.length
    · have hltI : (k : Int) < (l.length : Int) := by omega
      obtain ⟨b, off, cap', he, _, _⟩ := HR.out.shape (by omega)
      cases he
      have r0 : (w.alloc (.cells (arr cv) 30)).cell? ⟨b, off + k * 3, none⟩ = some (.string l[k].dir) := HR.out.range hlt 0 _ rfl
      have r1 : (w.alloc (.cells (arr cv) 30)).cell? ⟨b, off + k * 3 + 1, none⟩ = some (.string l[k].name) := HR.out.range hlt 1 _ rfl
      by_cases hu0 : l[k].dir = d
      · have e0 := (str_eq l[k].dir d).trans (decide_eq_true hu0)
        by_cases hu1 : l[k].name = m
        · have e1 := (str_eq l[k].name m).trans (decide_eq_true hu1)
          obtain rfl := HFR.out.trans (plc_hit hlt HN.out (by simp [hu0, hu1]))
          clear hu0 hu1
          go_wp2_with fail
          go_ret
          exact ⟨rfl, HB.out⟩
        · have e1 := (str_eq l[k].name m).trans (decide_eq_false hu1)
          have HU : Hid (decide (kN l[k] = (d, m)) = false) := Lib.hid (by simp [hu1])
          clear hu0 hu1
          go_wp2_with fail
          go_round
          case rel => exact ⟨k + 1, by omega, by go_num, take_next hlt HN.out HU.out⟩
          case measure => simp [intOf]; omega
      · have e0 := (str_eq l[k].dir d).trans (decide_eq_false hu0)
        have HU : Hid (decide (kN l[k] = (d, m)) = false) := Lib.hid (by simp [hu0])
        clear hu0
        go_wp2_with fail
        go_round
        case rel => exact ⟨k + 1, by omega, by go_num, take_next hlt HN.out HU.out⟩
        case measure => simp [intOf]; omega
    · have hltI : ¬ (k : Int) < (l.length : Int) := by omega
      obtain rfl : k = l.length := by omega
      have HM := HN.out
      rw [List.take_length] at HM
      obtain rfl := HFR.out.trans (plc_miss HM)
      clear HM HN
      go_wp2_with fail
      go_ret
      exact ⟨rfl, HB.out⟩
set_option maxHeartbeats 4000000 in
theorem pblock_any {l : List Bl} {cv : Cv} {w : World} (h : Rs w 0 cv.d.v l) (u : ByteArray) (m : Int) :
    Calls Tryz.prog 24 #[.agg (arr cv), .string u, .int .i64 m] w fun r w' => r = .returned (.int .i64 (plc (fun y => decide (kB y = (u, m))) l)) ∧ Below w.heap.size w w' := by
  have hb0 : Below w.heap.size w (w.alloc (.cells (arr cv) 30)) := bel_box
  have c1 := (cv_cells (heap_alloc_new w (.cells (arr cv) 30))).2.2.2
  have hr := h.below hb0
  obtain ⟨A, cap, hv, hlc, hcap⟩ := hr.any
  rw [hv] at c1
  rw [hv] at hr
  have HR := Lib.hid hr
  have HB := Lib.hid hb0
  clear h hv hr hb0
  obtain ⟨r, hfr⟩ : ∃ r, r = plc (fun y => decide (kB y = (u, m))) l := ⟨_, rfl⟩
  rw [← hfr]
  have HFR := Lib.hid hfr
  clear hfr
  have hm63 : maxLen = 9223372036854775807 := rfl
  go_enter Tryz.func24, Tryz.ntmps24
  go_wp2_with fail
  go_loop [7] (fun i => ∃ k : Nat, k ≤ l.length ∧ i = .int .i64 k ∧ (∀ y ∈ l.take k, decide (kB y = (u, m)) = false)) (fun i => l.length - (intOf i).toNat)
  case atStart => exact ⟨0, by omega, rfl, fun y hy => by simp at hy⟩
  case round =>
    obtain ⟨k, hk, rfl, hno⟩ := hrel
    have HN := Lib.hid hno
    clear hno
    by_cases hlt : k < l.length
    · have hltI : (k : Int) < (l.length : Int) := by omega
      obtain ⟨b, off, cap', he, _, _⟩ := HR.out.shape (by omega)
      cases he
      have r0 : (w.alloc (.cells (arr cv) 30)).cell? ⟨b, off + k * 3, none⟩ = some (.string l[k].up) := HR.out.range hlt 0 _ rfl
      have r1 : (w.alloc (.cells (arr cv) 30)).cell? ⟨b, off + k * 3 + 1, none⟩ = some (.int .i64 l[k].no) := HR.out.range hlt 1 _ rfl
      by_cases hu0 : l[k].up = u
      · have e0 := (str_eq l[k].up u).trans (decide_eq_true hu0)
        by_cases hu1 : l[k].no = m
        · have e1 : (l[k].no == m) = true := by simp [hu1]
          obtain rfl := HFR.out.trans (plc_hit hlt HN.out (by simp [hu0, hu1]))
          clear hu0 hu1
          go_wp2_with fail
          go_ret
          exact ⟨rfl, HB.out⟩
        · have e1 : (l[k].no == m) = false := by simp [hu1]
          have HU : Hid (decide (kB l[k] = (u, m)) = false) := Lib.hid (by simp [hu1])
          clear hu0 hu1
          go_wp2_with fail
          go_round
          case rel => exact ⟨k + 1, by omega, by go_num, take_next hlt HN.out HU.out⟩
          case measure => simp [intOf]; omega
      · have e0 := (str_eq l[k].up u).trans (decide_eq_false hu0)
        have HU : Hid (decide (kB l[k] = (u, m)) = false) := Lib.hid (by simp [hu0])
        clear hu0
        go_wp2_with fail
        go_round
        case rel => exact ⟨k + 1, by omega, by go_num, take_next hlt HN.out HU.out⟩
        case measure => simp [intOf]; omega
    · have hltI : ¬ (k : Int) < (l.length : Int) := by omega
      obtain rfl : k = l.length := by omega
      have HM := HN.out
      rw [List.take_length] at HM
      obtain rfl := HFR.out.trans (plc_miss HM)
      clear HM HN
      go_wp2_with fail
      go_ret
      exact ⟨rfl, HB.out⟩
set_option maxHeartbeats 4000000 in
theorem pissued_any {l : List Hd} {v : Value} {w : World} (h : Rs w 0 v l) (u : ByteArray) :
    Calls Tryz.prog 18 #[v, .string u] w fun r w' => r = .returned (.int .i64 (plc (fun y => decide (kU y = u)) l)) ∧ Below w.heap.size w w' := by
  obtain ⟨A, cap, hv, hlc, hcap⟩ := h.any
  subst hv
  have HR := Lib.hid h
  have HB := Lib.hid (Below.refl w.heap.size w)
  clear h
  obtain ⟨r, hfr⟩ : ∃ r, r = plc (fun y => decide (kU y = u)) l := ⟨_, rfl⟩
  rw [← hfr]
  have HFR := Lib.hid hfr
  clear hfr
  have hm63 : maxLen = 9223372036854775807 := rfl
  go_enter Tryz.func18, Tryz.ntmps18
  go_wp2_with fail
  go_loop [5] (fun i => ∃ k : Nat, k ≤ l.length ∧ i = .int .i64 k ∧ (∀ y ∈ l.take k, decide (kU y = u) = false)) (fun i => l.length - (intOf i).toNat)
  case atStart => exact ⟨0, by omega, rfl, fun y hy => by simp at hy⟩
  case round =>
    obtain ⟨k, hk, rfl, hno⟩ := hrel
    have HN := Lib.hid hno
    clear hno
    by_cases hlt : k < l.length
    · have hltI : (k : Int) < (l.length : Int) := by omega
      obtain ⟨b, off, cap', he, _, _⟩ := HR.out.shape (by omega)
      cases he
      have r0 : w.cell? ⟨b, off + k * 3 + 2, none⟩ = some (.string l[k].up) := HR.out.range hlt 2 _ rfl
      by_cases hu0 : l[k].up = u
      · have e0 := (str_eq l[k].up u).trans (decide_eq_true hu0)
        obtain rfl := HFR.out.trans (plc_hit hlt HN.out (by simp [hu0]))
        clear hu0
        go_wp2_with fail
        go_ret
        exact ⟨rfl, HB.out⟩
      · have e0 := (str_eq l[k].up u).trans (decide_eq_false hu0)
        have HU : Hid (decide (kU l[k] = u) = false) := Lib.hid (by simp [hu0])
        clear hu0
        go_wp2_with fail
        go_round
        case rel => exact ⟨k + 1, by omega, by go_num, take_next hlt HN.out HU.out⟩
        case measure => simp [intOf]; omega
    · have hltI : ¬ (k : Int) < (l.length : Int) := by omega
      obtain rfl : k = l.length := by omega
      have HM := HN.out
      rw [List.take_length] at HM
      obtain rfl := HFR.out.trans (plc_miss HM)
      clear HM HN
      go_wp2_with fail
      go_ret
      exact ⟨rfl, HB.out⟩
set_option maxHeartbeats 4000000 in
theorem pheld_any {l : List Hd} {v : Value} {w : World} (h : Rs w 0 v l) (e : Int) (s : Int) :
    Calls Tryz.prog 41 #[v, .int .i64 e, .int .i64 s] w fun r w' => r = .returned (.int .i64 (plc (fun y => decide (kH y = (e, s))) l)) ∧ Below w.heap.size w w' := by
  obtain ⟨A, cap, hv, hlc, hcap⟩ := h.any
  subst hv
  have HR := Lib.hid h
  have HB := Lib.hid (Below.refl w.heap.size w)
  clear h
  obtain ⟨r, hfr⟩ : ∃ r, r = plc (fun y => decide (kH y = (e, s))) l := ⟨_, rfl⟩
  rw [← hfr]
  have HFR := Lib.hid hfr
  clear hfr
  have hm63 : maxLen = 9223372036854775807 := rfl
  go_enter Tryz.func41, Tryz.ntmps41
  go_wp2_with fail
  go_loop [7] (fun i => ∃ k : Nat, k ≤ l.length ∧ i = .int .i64 k ∧ (∀ y ∈ l.take k, decide (kH y = (e, s)) = false)) (fun i => l.length - (intOf i).toNat)
  case atStart => exact ⟨0, by omega, rfl, fun y hy => by simp at hy⟩
  case round =>
    obtain ⟨k, hk, rfl, hno⟩ := hrel
    have HN := Lib.hid hno
    clear hno
    by_cases hlt : k < l.length
    · have hltI : (k : Int) < (l.length : Int) := by omega
      obtain ⟨b, off, cap', he, _, _⟩ := HR.out.shape (by omega)
      cases he
      have r0 : w.cell? ⟨b, off + k * 3, none⟩ = some (.int .i64 l[k].e) := HR.out.range hlt 0 _ rfl
      have r1 : w.cell? ⟨b, off + k * 3 + 1, none⟩ = some (.int .i64 l[k].s) := HR.out.range hlt 1 _ rfl
      by_cases hu0 : l[k].e = e
      · have e0 : (l[k].e == e) = true := by simp [hu0]
        by_cases hu1 : l[k].s = s
        · have e1 : (l[k].s == s) = true := by simp [hu1]
          obtain rfl := HFR.out.trans (plc_hit hlt HN.out (by simp [hu0, hu1]))
          clear hu0 hu1
          go_wp2_with fail
          go_ret
          exact ⟨rfl, HB.out⟩
        · have e1 : (l[k].s == s) = false := by simp [hu1]
          have HU : Hid (decide (kH l[k] = (e, s)) = false) := Lib.hid (by simp [hu1])
          clear hu0 hu1
          go_wp2_with fail
          go_round
          case rel => exact ⟨k + 1, by omega, by go_num, take_next hlt HN.out HU.out⟩
          case measure => simp [intOf]; omega
      · have e0 : (l[k].e == e) = false := by simp [hu0]
        have HU : Hid (decide (kH l[k] = (e, s)) = false) := Lib.hid (by simp [hu0])
        clear hu0
        go_wp2_with fail
        go_round
        case rel => exact ⟨k + 1, by omega, by go_num, take_next hlt HN.out HU.out⟩
        case measure => simp [intOf]; omega
    · have hltI : ¬ (k : Int) < (l.length : Int) := by omega
      obtain rfl : k = l.length := by omega
      have HM := HN.out
      rw [List.take_length] at HM
      obtain rfl := HFR.out.trans (plc_miss HM)
      clear HM HN
      go_wp2_with fail
      go_ret
      exact ⟨rfl, HB.out⟩
end Go.Proofs.YtokhnbdhcehonaaGreat
/- index: the document's orders. -/
namespace Go.Proofs.YtokhnbdhcehonaaGreat
open Go Go.RowKit Row
set_option maxRecDepth 100000
set_option maxHeartbeats 4000000 in
theorem lheld_any (a b : Hd) (w : World) : Calls Tryz.prog 106 #[.agg (arr a), .agg (arr b)] w fun r w' => r = .returned (.bool (lH (kH a) (kH b))) ∧ Below w.heap.size w w' := by
  have ha : ((w.alloc (.cells (arr a) 40)).alloc (.cells (arr b) 40)).heap[w.heap.size]? = some (.cells (arr a) 40) := heap_old_at (heap_alloc_new _ _)
  have hb : ((w.alloc (.cells (arr a) 40)).alloc (.cells (arr b) 40)).heap[w.heap.size + 1]? = some (.cells (arr b) 40) := heap_new_at _ _ (alloc_size _ _)
  have HB : Hid (Below w.heap.size w ((w.alloc (.cells (arr a) 40)).alloc (.cells (arr b) 40))) := Lib.hid (by go_grown)
  have a0 : ((w.alloc (.cells (arr a) 40)).alloc (.cells (arr b) 40)).cell? ⟨w.heap.size, 0, none⟩ = some (.int .i64 a.e) := by rw [row_cell ha]; rfl
  have a1 : ((w.alloc (.cells (arr a) 40)).alloc (.cells (arr b) 40)).cell? ⟨w.heap.size, 1, none⟩ = some (.int .i64 a.s) := by rw [row_cell ha]; rfl
  have b0 : ((w.alloc (.cells (arr a) 40)).alloc (.cells (arr b) 40)).cell? ⟨w.heap.size + 1, 0, none⟩ = some (.int .i64 b.e) := by rw [row_cell hb]; rfl
  have b1 : ((w.alloc (.cells (arr a) 40)).alloc (.cells (arr b) 40)).cell? ⟨w.heap.size + 1, 1, none⟩ = some (.int .i64 b.s) := by rw [row_cell hb]; rfl
  obtain ⟨r, hr⟩ : ∃ r, r = lH (kH a) (kH b) := ⟨_, rfl⟩
  rw [← hr]
  change r = (ilt a.e b.e || (decide (a.e = b.e) && ilt a.s b.s)) at hr
  obtain ⟨l1, h1⟩ : ∃ l1, ilt a.e b.e = l1 := ⟨_, rfl⟩
  obtain ⟨l2, h2⟩ : ∃ l2, ilt a.s b.s = l2 := ⟨_, rfl⟩
  obtain ⟨q, hq⟩ : ∃ q, decide (a.e = b.e) = q := ⟨_, rfl⟩
  rw [h1, h2, hq] at hr
  have h1' : decide (a.e < b.e) = l1 := h1
  have h2' : decide (a.s < b.s) = l2 := h2
  have hq' : (a.e == b.e) = q := by rw [← hq]; rfl
  have HR := Lib.hid hr
  clear ha hb hr h1 h2 hq
  cases l1 <;> cases q <;> cases l2
  all_goals
    obtain rfl := HR.out
    go_enter Tryz.func106, Tryz.ntmps106
    go_wp2_with fail
    go_ret
    exact ⟨rfl, HB.out⟩
set_option maxHeartbeats 4000000 in
theorem lknown_any (a b : Nm) (w : World) : Calls Tryz.prog 72 #[.agg (arr a), .agg (arr b)] w fun r w' => r = .returned (.bool (lN (kN a) (kN b))) ∧ Below w.heap.size w w' := by
  have ha : ((w.alloc (.cells (arr a) 54)).alloc (.cells (arr b) 54)).heap[w.heap.size]? = some (.cells (arr a) 54) := heap_old_at (heap_alloc_new _ _)
  have hb : ((w.alloc (.cells (arr a) 54)).alloc (.cells (arr b) 54)).heap[w.heap.size + 1]? = some (.cells (arr b) 54) := heap_new_at _ _ (alloc_size _ _)
  have HB : Hid (Below w.heap.size w ((w.alloc (.cells (arr a) 54)).alloc (.cells (arr b) 54))) := Lib.hid (by go_grown)
  have a0 : ((w.alloc (.cells (arr a) 54)).alloc (.cells (arr b) 54)).cell? ⟨w.heap.size, 0, none⟩ = some (.string a.dir) := by rw [row_cell ha]; rfl
  have a1 : ((w.alloc (.cells (arr a) 54)).alloc (.cells (arr b) 54)).cell? ⟨w.heap.size, 1, none⟩ = some (.string a.name) := by rw [row_cell ha]; rfl
  have b0 : ((w.alloc (.cells (arr a) 54)).alloc (.cells (arr b) 54)).cell? ⟨w.heap.size + 1, 0, none⟩ = some (.string b.dir) := by rw [row_cell hb]; rfl
  have b1 : ((w.alloc (.cells (arr a) 54)).alloc (.cells (arr b) 54)).cell? ⟨w.heap.size + 1, 1, none⟩ = some (.string b.name) := by rw [row_cell hb]; rfl
  obtain ⟨r, hr⟩ : ∃ r, r = lN (kN a) (kN b) := ⟨_, rfl⟩
  rw [← hr]
  change r = (slt a.dir b.dir || (decide (a.dir = b.dir) && slt a.name b.name)) at hr
  obtain ⟨l1, h1⟩ : ∃ l1, slt a.dir b.dir = l1 := ⟨_, rfl⟩
  obtain ⟨l2, h2⟩ : ∃ l2, slt a.name b.name = l2 := ⟨_, rfl⟩
  obtain ⟨q, hq⟩ : ∃ q, decide (a.dir = b.dir) = q := ⟨_, rfl⟩
  rw [h1, h2, hq] at hr
  have h1' : Op.bytesLess a.dir.toList b.dir.toList = l1 := h1
  have h2' : Op.bytesLess a.name.toList b.name.toList = l2 := h2
  have hq' : (a.dir.toList == b.dir.toList) = q := (str_eq _ _).trans hq
  have HR := Lib.hid hr
  clear ha hb hr h1 h2 hq
  cases l1 <;> cases q <;> cases l2
  all_goals
    obtain rfl := HR.out
    go_enter Tryz.func72, Tryz.ntmps72
    go_wp2_with fail
    go_ret
    exact ⟨rfl, HB.out⟩
set_option maxHeartbeats 4000000 in
theorem lplaced_any (a b : Bl) (w : World) : Calls Tryz.prog 107 #[.agg (arr a), .agg (arr b)] w fun r w' => r = .returned (.bool (lB (kB a) (kB b))) ∧ Below w.heap.size w w' := by
  have ha : ((w.alloc (.cells (arr a) 59)).alloc (.cells (arr b) 59)).heap[w.heap.size]? = some (.cells (arr a) 59) := heap_old_at (heap_alloc_new _ _)
  have hb : ((w.alloc (.cells (arr a) 59)).alloc (.cells (arr b) 59)).heap[w.heap.size + 1]? = some (.cells (arr b) 59) := heap_new_at _ _ (alloc_size _ _)
  have HB : Hid (Below w.heap.size w ((w.alloc (.cells (arr a) 59)).alloc (.cells (arr b) 59))) := Lib.hid (by go_grown)
  have a0 : ((w.alloc (.cells (arr a) 59)).alloc (.cells (arr b) 59)).cell? ⟨w.heap.size, 0, none⟩ = some (.string a.up) := by rw [row_cell ha]; rfl
  have a1 : ((w.alloc (.cells (arr a) 59)).alloc (.cells (arr b) 59)).cell? ⟨w.heap.size, 1, none⟩ = some (.int .i64 a.no) := by rw [row_cell ha]; rfl
  have b0 : ((w.alloc (.cells (arr a) 59)).alloc (.cells (arr b) 59)).cell? ⟨w.heap.size + 1, 0, none⟩ = some (.string b.up) := by rw [row_cell hb]; rfl
  have b1 : ((w.alloc (.cells (arr a) 59)).alloc (.cells (arr b) 59)).cell? ⟨w.heap.size + 1, 1, none⟩ = some (.int .i64 b.no) := by rw [row_cell hb]; rfl
  obtain ⟨r, hr⟩ : ∃ r, r = lB (kB a) (kB b) := ⟨_, rfl⟩
  rw [← hr]
  change r = (slt a.up b.up || (decide (a.up = b.up) && ilt a.no b.no)) at hr
  obtain ⟨l1, h1⟩ : ∃ l1, slt a.up b.up = l1 := ⟨_, rfl⟩
  obtain ⟨l2, h2⟩ : ∃ l2, ilt a.no b.no = l2 := ⟨_, rfl⟩
  obtain ⟨q, hq⟩ : ∃ q, decide (a.up = b.up) = q := ⟨_, rfl⟩
  rw [h1, h2, hq] at hr
  have h1' : Op.bytesLess a.up.toList b.up.toList = l1 := h1
  have h2' : decide (a.no < b.no) = l2 := h2
  have hq' : (a.up.toList == b.up.toList) = q := (str_eq _ _).trans hq
  have HR := Lib.hid hr
  clear ha hb hr h1 h2 hq
  cases l1 <;> cases q <;> cases l2
  all_goals
    obtain rfl := HR.out
    go_enter Tryz.func107, Tryz.ntmps107
    go_wp2_with fail
    go_ret
    exact ⟨rfl, HB.out⟩
end Go.Proofs.YtokhnbdhcehonaaGreat
/- index: lists built up one by one; put, one by one. -/
namespace Go.Proofs.YtokhnbdhcehonaaGreat
open Go Go.RowKit Row
set_option maxRecDepth 100000
set_option linter.unusedSectionVars false
section
variable {α : Type} [Row α] [RowT α] [RowS α]
theorem rs_one (w : World) (p : α) : Rs (w.alloc (.cells (arr p) (RowT.T α))) 0 (.slice (some ⟨w.heap.size, 0, none⟩) 1 1) [p] := by
  have h := Sl.made (B := 0) w (RowT.T α) (n α) 1 (arr p) (Nat.zero_le _) (by decide) (by rw [arr_size, Nat.one_mul])
  unfold Rs
  rw [show enc [p] = (arr p).toList by simp [enc]]
  exact h
/-- v: a list that has been built in a call whose own blocks begin at w0's end -/
structure Ou (w0 w : World) (v : Value) (out : List α) : Prop where
  rs : Rs w w0.heap.size v out
  bl : Below w0.heap.size w0 w
variable {w0 w w' : World} {v : Value} {out : List α}
variable {ops : Array Oper} {rest : List Oper} {o : Oper} {a : Act} {Q : Exit → Act → World → Prop}
theorem Ou.start (w0 : World) : Ou w0 w0 (.slice none 0 0) ([] : List α) := ⟨Rs.nil _ _, Below.refl _ _⟩
theorem Ou.below (h : Ou w0 w v out) (hb : Below w.heap.size w w') : Ou w0 w' v out := ⟨h.rs.below hb, h.bl.trans (hb.mono h.bl.size)⟩
theorem rw_app1 (h : Ou w0 w v out) (hlen : out.length < 1000) (hn24 : n α ≤ 16777216) (o' : Oper) (d : Nat) (s x : Operand) (hgd : o.guard = none) (hgd' : o'.guard = none) (ho : o.op = .buildSlice (RowS.S α) 1 #[(0, x)]) (hd : o.dst = some d)
    (ho' : o'.op = .call { callee := .builtin .append, args := #[s, .tmp d], argTypes := #[RowS.S α, RowS.S α] }) (p : α) (hx : a.eval x = .agg (arr p))
    (hs : (a.put (some d) (.slice (some ⟨w.heap.size, 0, none⟩) 1 1)).eval s = v) (hxd : (a.put (some d) (.slice (some ⟨w.heap.size, 0, none⟩) 1 1)).eval (.tmp d) = .slice (some ⟨w.heap.size, 0, none⟩) 1 1)
    (hK : ∀ v' w', Ou w0 w' v' (out ++ [p]) → wpList Tryz.prog ops Q rest ((a.put (some d) (.slice (some ⟨w.heap.size, 0, none⟩) 1 1)).put o'.dst v') w') : wpList Tryz.prog ops Q (o :: o' :: rest) a w := by
  have hsz := h.bl.size
  refine rw_lit1 hn24 hgd x ho p hx ?_
  rw [hd]
  refine rw_append hgd' s (.tmp d) ho' hs (h.rs.below bel_box) hxd (rs_one w p) (by simp; omega) (by rw [alloc_size]; omega) ?_
  intro v' w' h1 h2 h3
  exact hK v' w' ⟨h1, (h.bl.trans (bel_box.mono hsz)).grown h2 (by rw [alloc_size]; omega) (fun j hj => Sl.ge h.rs j hj)⟩
end
section
variable {α κ : Type} [DecidableEq κ] {k : α → κ} {lt : κ → κ → Bool}
theorem put_step (hl : Lin lt) {l : List α} {x : α} {j : Nat} (hj : j < l.length) (h : lt (k l[j]) (k x) = false) : put k lt (l.take (j + 1)) x = put k lt (l.take j) x ++ (if k l[j] = k x then [] else [l[j]]) := by
  rw [List.take_succ_eq_append_getElem hj]
  unfold put
  rw [List.filter_append, List.filter_append]
  simp only [List.filter_cons, List.filter_nil, h, Bool.false_eq_true, if_false, List.append_nil, List.append_assoc, List.cons_append]
  by_cases e : k l[j] = k x
  · rw [if_pos e, e, hl.irr]; simp
  · rw [if_neg e]
    have : lt (k x) (k l[j]) = true := (hl.tot _ _ e).resolve_left (by rw [h]; decide)
    rw [this]; simp
theorem put_low (hl : Lin lt) {l : List α} {x : α} (h : ∀ y ∈ l, lt (k y) (k x) = true) : put k lt l x = l ++ [x] := by
  unfold put
  rw [filter_all h, filter_none (fun y hy => hl.asy (h y hy))]
theorem put_take_len (hl : Lin lt) (l : List α) (x : α) (j : Nat) : (put k lt (l.take j) x).length ≤ l.length + 1 := by
  have := put_len (k := k) hl (l.take j) x
  rw [List.length_take] at this
  omega
/-- what has been built behind j of them -/
structure Pu (k : α → κ) (lt : κ → κ → Bool) (l : List α) (x : α) (j : Nat) (done : Bool) (out : List α) : Prop where
  no : done = false → out = l.take j ∧ ∀ y ∈ l.take j, lt (k y) (k x) = true
  yes : done = true → out = put k lt (l.take j) x ∧ ∀ y ∈ l.drop j, lt (k y) (k x) = false
variable {l : List α} {x : α} {j : Nat} {out : List α} {done : Bool}
theorem Pu.start : Pu k lt l x 0 false [] := ⟨fun _ => ⟨by simp, fun y hy => by simp at hy⟩, fun h => by cases h⟩
theorem Pu.len (hl : Lin lt) (h : Pu k lt l x j done out) : out.length ≤ l.length + 1 := by
  cases done with
  | false => rw [(h.no rfl).1, List.length_take]; omega
  | true => rw [(h.yes rfl).1]; exact put_take_len hl l x j
theorem Pu.low (h : Pu k lt l x j false out) (hj : j < l.length) (hlt : lt (k l[j]) (k x) = true) : Pu k lt l x (j + 1) false (out ++ [l[j]]) :=
  ⟨fun _ => by
    rw [List.take_succ_eq_append_getElem hj]
    refine ⟨by rw [(h.no rfl).1], fun y hy => ?_⟩
    rcases List.mem_append.1 hy with h1 | h1
    · exact (h.no rfl).2 y h1
    · rw [List.mem_singleton.1 h1]; exact hlt, fun h => by cases h⟩
theorem Pu.turn (hl : Lin lt) (hs : Srt k lt l) (h : Pu k lt l x j false out) (hj : j < l.length) (hlt : lt (k l[j]) (k x) = false) : Pu k lt l x j true (out ++ [x]) :=
  ⟨fun h => (by cases h), fun _ => ⟨by rw [(h.no rfl).1, put_low hl (h.no rfl).2], cut_hi hl hs hj hlt⟩⟩
theorem Pu.at_ (h : Pu k lt l x j true out) (hj : j < l.length) : lt (k l[j]) (k x) = false := (h.yes rfl).2 _ (by rw [List.drop_eq_getElem_cons hj]; exact List.mem_cons_self)
theorem Pu.next (hl : Lin lt) (h : Pu k lt l x j true out) (hj : j < l.length) (he : k l[j] ≠ k x) : Pu k lt l x (j + 1) true (out ++ [l[j]]) :=
  ⟨fun h => (by cases h), fun _ => ⟨by rw [(h.yes rfl).1, put_step hl hj (h.at_ hj), if_neg he], fun y hy => (h.yes rfl).2 y (by rw [List.drop_eq_getElem_cons hj]; exact List.mem_cons_of_mem _ hy)⟩⟩
theorem Pu.skip (hl : Lin lt) (h : Pu k lt l x j true out) (hj : j < l.length) (he : k l[j] = k x) : Pu k lt l x (j + 1) true out :=
  ⟨fun h => (by cases h), fun _ => ⟨by rw [(h.yes rfl).1, put_step hl hj (h.at_ hj), if_pos he, List.append_nil], fun y hy => (h.yes rfl).2 y (by rw [List.drop_eq_getElem_cons hj]; exact List.mem_cons_of_mem _ hy)⟩⟩
theorem Pu.endNo (hl : Lin lt) (h : Pu k lt l x l.length false out) : out ++ [x] = put k lt l x := by
  obtain ⟨h1, h2⟩ := h.no rfl
  rw [List.take_length] at h1 h2
  rw [h1, put_low hl h2]
theorem Pu.endYes (h : Pu k lt l x l.length true out) : out = put k lt l x := by
  obtain ⟨h1, _⟩ := h.yes rfl
  rw [List.take_length] at h1
  exact h1
end
end Go.Proofs.YtokhnbdhcehonaaGreat
/- index: an element taken out of a list: append(append([]T{}, l[:i]...), l[i+1:]...), stored. -/
namespace Go.Proofs.YtokhnbdhcehonaaGreat
open Go Go.RowKit Row
set_option maxRecDepth 100000
set_option linter.unusedSectionVars false
section
variable {α : Type} [Row α] [RowT α] [RowS α]
variable {w w' : World} {B : Nat} {v : Value} {l m : List α}
variable {o : Oper} {a : Act} {K : Value → World → Prop}
theorem turn_append (s x : Operand) (ho : o.op = .call { callee := .builtin .append, args := #[s, x], argTypes := #[RowS.S α, RowS.S α] }) (hs : a.eval s = v) (h : Rs w B v l) (A : Option Addr) (c : Nat) (hx : a.eval x = .slice A m.length c)
    (hn0 : A = none → m.length = 0 ∧ c = 0) (hnews : ∀ ad, A = some ad → ∀ j u, (enc m)[j]? = some u → w.cell? (ad.add j) = some u) (hlm : l.length + m.length ≤ 1000000) (hbase : B ≤ w.heap.size)
    (hK : ∀ v' w', Rs w' B v' (l ++ m) → w.grownBy w' v.ownBlock → K v' w') : effR Tryz.prog K ((execOp a.eval o).run Tryz.prog w) := by
  obtain ⟨i, hi, hz, hn, hby⟩ := RowT.info (α := α)
  obtain ⟨v', w', hr, h2, h3, h4⟩ := run_append_sl (P := Tryz.prog) w (RowS.S α) o.type (RowT.T α) i (.agg (arr (RowT.z : α))) (n α) (RowT.bytes α) RowS.hS hi hz hn hby (arr_size _) Row.pos v l.length (enc l) h A m.length c (enc m) hn0 (enc_len m) hnews (enc_one m) (by have : maxLen = 9223372036854775807 := rfl; omega) (Nat.le_trans (Nat.mul_le_mul hlm RowT.hby) (by decide)) hbase
  unfold execOp
  simp only [ho, resolve, invoke, builtin, Sem.run_bind, Sem.run_pure, Result.andThen_ok, List.map_toArray, List.map_cons, List.map_nil, hs, hx, hr]
  refine hK v' w' ?_ h3
  unfold Rs
  rw [List.length_append, enc_append]
  exact h2
theorem turn_cell {β : Type} [Row β] [RowT β] (t : TypeId) (x y : Operand) (ho : o.op = .store t x y) (b j : Nat) (p p' : β) (hx : a.eval x = .pointer (some ⟨b, j, none⟩)) (hy : a.eval y = v) {T : TypeId} (hb : w.heap[b]? = some (.cells (arr p) T))
    (hj : j < n β) (hset : (arr p).setIfInBounds j v = arr p') (h1 : v.oneCell' = true) (hi : (Tryz.prog.info? t).map (·.size) = some 1)
    (hK : ∀ w', w'.heap[b]? = some (.cells (arr p') T) → w.grownBy w' (some b) → w'.heap.size = w.heap.size → K undef w') : effR Tryz.prog K ((execOp a.eval o).run Tryz.prog w) := by
  have hr := run_storeVar_cell (P := Tryz.prog) w b j t v (by rw [row_cell hb, Array.getElem?_eq_getElem (by rw [arr_size]; exact hj)]; rfl) (row_froz hb _) hi h1
  unfold execOp
  simp only [ho, hx, hy, Instr.storeAt, Instr.sureAddr, Sem.run_bind, Sem.run_pure, Result.andThen_ok, hr]
  refine hK _ ?_ (setCells_grown b [v] j w) (by simp [World.setCell])
  rw [setCell_heap hb, hset]
/-- what two slices of a list hold -/
theorem news_take {b off cap i : Nat} (h : Rs w B (.slice (some ⟨b, off, none⟩) l.length cap) l) : ∀ ad, some (⟨b, off, none⟩ : Addr) = some ad → ∀ j u, (enc (l.take i))[j]? = some u → w.cell? (ad.add j) = some u := by
  intro ad had j u hu
  cases had
  rw [enc_take, List.getElem?_take] at hu
  split at hu
  · rw [addr_add]; exact Sl.cell h hu
  · cases hu
theorem news_drop {b off cap i : Nat} (h : Rs w B (.slice (some ⟨b, off, none⟩) l.length cap) l) : ∀ ad, some (⟨b, off + i * n α, none⟩ : Addr) = some ad → ∀ j u, (enc (l.drop i))[j]? = some u → w.cell? (ad.add j) = some u := by
  intro ad had j u hu
  cases had
  rw [enc_drop, List.getElem?_drop] at hu
  rw [addr_add, Nat.add_assoc]
  exact Sl.cell h hu
theorem news_drop2 {b off cap i : Nat} (h : Rs w B (.slice (some ⟨b, off, none⟩) l.length cap) l) (hle : l.length ≤ cap) : ∀ ad, (if cap = i then some (⟨b, off, none⟩ : Addr) else some ⟨b, off + i * n α, none⟩) = some ad → ∀ j u, (enc (l.drop i))[j]? = some u → w.cell? (ad.add j) = some u := by
  split
  · next e =>
    intro ad had j u hu
    rw [List.drop_of_length_le (by omega)] at hu
    cases hu
  · exact news_drop h
theorem if_some {b off k : Nat} {q : Prop} [Decidable q] {p : Prop} (h : (if q then some (⟨b, off, none⟩ : Addr) else some ⟨b, k, none⟩) = none) : p := by
  split at h <;> cases h
end
end Go.Proofs.YtokhnbdhcehonaaGreat
/- index: the document's bare. -/
namespace Go.Proofs.YtokhnbdhcehonaaGreat
open Go Go.RowKit Row
set_option maxRecDepth 100000
theorem filter_yes {α : Type} {p : α → Bool} {l : List α} {k : Nat} (hk : k < l.length) (h : p l[k] = true) : (l.take (k + 1)).filter p = (l.take k).filter p ++ [l[k]] := by
  rw [List.take_succ_eq_append_getElem hk, List.filter_append, List.filter_cons_of_pos h, List.filter_nil]
theorem filter_no {α : Type} {p : α → Bool} {l : List α} {k : Nat} (hk : k < l.length) (h : p l[k] = false) : (l.take (k + 1)).filter p = (l.take k).filter p := by
  rw [List.take_succ_eq_append_getElem hk, List.filter_append, List.filter_cons_of_neg (by simp [h]), List.filter_nil, List.append_nil]
def pN (u : ByteArray) (y : Nm) : Bool := !decide (y.dir = u)
def pB (u : ByteArray) (y : Bl) : Bool := !decide (y.up = u)
set_option maxHeartbeats 16000000 in
theorem pbare_any {c : Ca} {cv : Cv} {w : World} (h : CaAt w cv c) (hf : Few c 990) (u : ByteArray) :
    Calls Tryz.prog 122 #[.agg (arr cv), .string u] w fun r w' => ∃ cv', r = .returned (.agg (arr cv')) ∧ CaAt w' cv' (bareC c u) ∧ Below w.heap.size w w' := by
  obtain ⟨W, hW⟩ : ∃ W, W = (w.alloc (.cells (arr cv) 30)).alloc (.cells (arr (RowT.z : Cv)) (RowT.T Cv)) := ⟨_, rfl⟩
  have hb0 : Below w.heap.size w W := by rw [hW]; go_grown
  have HC : Hid (W.heap[w.heap.size]? = some (.cells (arr cv) 30)) := Lib.hid (by rw [hW]; exact heap_old_at (heap_alloc_new _ _))
  have HZ : Hid (W.heap[w.heap.size + 1]? = some (.cells (arr (RowT.z : Cv)) (RowT.T Cv))) := Lib.hid (by rw [hW]; exact heap_new_at _ _ (alloc_size _ _))
  have HSZ : Hid (W.heap.size = w.heap.size + 2) := Lib.hid (by rw [hW, alloc_size, alloc_size])
  have hrn := h.ns.below hb0
  obtain ⟨An, capn, hvn, hlcn, hcapn⟩ := hrn.any
  rw [hvn] at hrn
  have hrb := h.bs.below hb0
  obtain ⟨Ab, capb, hvb, hlcb, hcapb⟩ := hrb.any
  rw [hvb] at hrb
  have HCA := Lib.hid h
  have HFW := Lib.hid hf
  have HVN := Lib.hid hvn
  have HVB := Lib.hid hvb
  have HRN := Lib.hid hrn
  have HRB := Lib.hid hrb
  have HB := Lib.hid hb0
  have HW := Lib.hid hW
  clear h hf hvn hvb hrn hrb hb0 hW
  obtain ⟨l, hl⟩ : ∃ l, l = c.ns := ⟨_, rfl⟩
  obtain ⟨m, hm⟩ : ∃ m, m = c.bs := ⟨_, rfl⟩
  rw [← hl] at HVN HRN hlcn
  rw [← hm] at HVB HRB hlcb
  have HLL := Lib.hid (show l.length ≤ 990 by rw [hl]; exact HFW.out.ns)
  have HML := Lib.hid (show m.length ≤ 990 by rw [hm]; exact HFW.out.bs)
  have HPC : Hid (bareC c u = { c with ns := l.filter (pN u), bs := m.filter (pB u) }) := Lib.hid (by rw [hl, hm]; rfl)
  clear hl hm
  have hm63 : maxLen = 9223372036854775807 := rfl
  go_enter Tryz.func122, Tryz.ntmps122
  go_wp2_with (refine rw_alloc (α := Cv) rfl rfl ?_)
  rw [← HW.out]
  go_loopw [5, 6] (fun vo i wq => ∃ k : Nat, k ≤ l.length ∧ i = .int .i64 k ∧ Ou W wq vo ((l.take k).filter (pN u))) (fun _ i _ => l.length - (intOf i).toNat)
  case atStart => exact ⟨0, by omega, rfl, .start W⟩
  case round =>
    obtain ⟨k, hk, rfl, hou⟩ := hrel
    have HO := Lib.hid hou
    clear hou
    by_cases hlt : k < l.length
    · have hltI : (k : Int) < (l.length : Int) := by omega
      obtain ⟨b, off, cap', he, _, _⟩ := HRN.out.shape (by omega)
      cases he
      have c2 := (cv_cells ((HO.out.bl.block _ (heap_lt HC.out)).trans HC.out)).2.2.1
      rw [HVN.out] at c2
      have HE := Lib.hid (rangeAt_below (HRN.out.range hlt) (HRN.out.lt b rfl) HO.out.bl)
      have r0 : wr.cell? ⟨b, off + k * 3, none⟩ = some (.string l[k].dir) := HE.out 0 _ rfl
      have HLE := Lib.hid (show ((l.take k).filter (pN u)).length < 1000 by have := List.length_filter_le (pN u) (l.take k); rw [List.length_take] at this; have := HLL.out; omega)
      by_cases hu : l[k].dir = u
      · have e0 := (str_eq l[k].dir u).trans (decide_eq_true hu)
        have HF := Lib.hid (filter_no (p := pN u) hlt (by simp [pN, hu]))
        clear hu
        go_wp2_with fail
        go_roundw
        case rel => exact ⟨k + 1, by omega, by go_num, by rw [HF.out]; exact HO.out⟩
        case measure => simp [intOf]; omega
      · have e0 := (str_eq l[k].dir u).trans (decide_eq_false hu)
        have HF := Lib.hid (filter_yes (p := pN u) hlt (by simp [pN, hu]))
        clear hu
        go_wp2_with (first
          | (refine rw_load (α := Nm) rfl (.tmp 28) rfl b (off + k * 3) rfl l[k] HE.out ?_)
          | (refine rw_app1 (α := Nm) HO.out HLE.out (by decide) _ 30 (.tmp 24) (.tmp 29) rfl rfl rfl rfl rfl l[k] rfl rfl rfl ?_; intro v1 w1 h1; have H1 := Lib.hid h1; clear h1))
        go_roundw
        case rel => exact ⟨k + 1, by omega, by go_num, by rw [HF.out]; exact H1.out⟩
        case measure => simp [intOf]; omega
    · have hltI : ¬ (k : Int) < (l.length : Int) := by omega
      obtain rfl : k = l.length := by omega
      have c2 := (cv_cells ((HO.out.bl.block _ (heap_lt HC.out)).trans HC.out)).2.2.1
      rw [HVN.out] at c2
      have HO1 := HO.out
      rw [List.take_length] at HO1
      have HO1 := Lib.hid HO1
      clear HO
      go_wp2_with fail
      have HR1 := Lib.hid HO1.out.rs
      have HBW1 := Lib.hid (HB.out.trans (HO1.out.bl.mono HB.out.size))
      obtain ⟨A1, k1, hv1, hl1, _⟩ := HO1.out.rs.any
      subst hv1
      clear c2
      have HC1 := Lib.hid ((HO1.out.bl.block _ (heap_lt HC.out)).trans HC.out)
      have HZ1 := Lib.hid ((HO1.out.bl.block _ (heap_lt HZ.out)).trans HZ.out)
      have HRB1 := Lib.hid (HRB.out.below HO1.out.bl)
      clear HO1
      obtain ⟨w2, hw2⟩ : ∃ w2, w2 = wr := ⟨_, rfl⟩
      subst hw2
      go_loopw [7, 8] (fun vo i wq => ∃ k : Nat, k ≤ m.length ∧ i = .int .i64 k ∧ Ou w2 wq vo ((m.take k).filter (pB u))) (fun _ i _ => m.length - (intOf i).toNat)
      case atStart => exact ⟨0, by omega, rfl, .start w2⟩
      case round =>
        obtain ⟨k, hk, rfl, hou⟩ := hrel
        have HO := Lib.hid hou
        clear hou
        have c3 := (cv_cells ((HO.out.bl.block _ (heap_lt HC1.out)).trans HC1.out)).2.2.2
        rw [HVB.out] at c3
        by_cases hlt : k < m.length
        · have hltI : (k : Int) < (m.length : Int) := by omega
          obtain ⟨b, off, cap', he, _, _⟩ := HRB1.out.shape (by omega)
          cases he
          have HE := Lib.hid (rangeAt_below (HRB1.out.range hlt) (HRB1.out.lt b rfl) HO.out.bl)
          have r0 : wr.cell? ⟨b, off + k * 3, none⟩ = some (.string m[k].up) := HE.out 0 _ rfl
          have HLE := Lib.hid (show ((m.take k).filter (pB u)).length < 1000 by have := List.length_filter_le (pB u) (m.take k); rw [List.length_take] at this; have := HML.out; omega)
          by_cases hu : m[k].up = u
          · have e0 := (str_eq m[k].up u).trans (decide_eq_true hu)
            have HF := Lib.hid (filter_no (p := pB u) hlt (by simp [pB, hu]))
            clear hu
            go_wp2_with fail
            go_roundw
            case rel => exact ⟨k + 1, by omega, by go_num, by rw [HF.out]; exact HO.out⟩
            case measure => simp [intOf]; omega
          · have e0 := (str_eq m[k].up u).trans (decide_eq_false hu)
            have HF := Lib.hid (filter_yes (p := pB u) hlt (by simp [pB, hu]))
            clear hu
            go_wp2_with (first
              | (refine rw_load (α := Bl) rfl (.tmp 51) rfl b (off + k * 3) rfl m[k] HE.out ?_)
              | (refine rw_app1 (α := Bl) HO.out HLE.out (by decide) _ 53 (.tmp 47) (.tmp 52) rfl rfl rfl rfl rfl m[k] rfl rfl rfl ?_; intro v1 w1 h1; have H1 := Lib.hid h1; clear h1))
            go_roundw
            case rel => exact ⟨k + 1, by omega, by go_num, by rw [HF.out]; exact H1.out⟩
            case measure => simp [intOf]; omega
        · have hltI : ¬ (k : Int) < (m.length : Int) := by omega
          obtain rfl : k = m.length := by omega
          have HO1 := HO.out
          rw [List.take_length] at HO1
          obtain ⟨A3, k3, hv3, hl3, _⟩ := HO1.rs.any
          subst hv3
          have HR3 := Lib.hid HO1.rs
          have HBW3 := Lib.hid (HBW1.out.trans (HO1.bl.mono HBW1.out.size))
          have HC3 := Lib.hid ((HO1.bl.block _ (heap_lt HC1.out)).trans HC1.out)
          have HZ3 := Lib.hid ((HO1.bl.block _ (heap_lt HZ1.out)).trans HZ1.out)
          have HR31 := Lib.hid (HR1.out.below HO1.bl)
          clear HO1 HO
          go_wp2_with (first
            | (refine rw_cell (α := Cv) rfl 27 (.tmp 56) (.tmp 55) rfl w.heap.size 2 cv { cv with c := ⟨A1, _, k1⟩ } (.slice A1 _ k1) rfl rfl HC3.out (by decide) rfl rfl size27 ?_; intro w4 hb4 hg4 hs4; have HC4 := Lib.hid hb4; have HBW4 := Lib.hid (HBW3.out.grown hg4 HBW3.out.size (fun j hj => by cases hj; exact Nat.le_refl _)); have HR4 := Lib.hid (HR31.out.grown hg4 HC3.out (by decide)); have HR34 := Lib.hid (HR3.out.grown hg4 HC3.out (by decide)); have HZ4 := Lib.hid ((hg4.block _ (heap_lt HZ3.out) (by simp)).trans HZ3.out); clear hb4 hg4 hs4 c3)
            | (refine rw_cell (α := Cv) rfl 28 (.tmp 58) (.tmp 57) rfl w.heap.size 3 { cv with c := ⟨A1, _, k1⟩ } { cv with c := ⟨A1, _, k1⟩, d := ⟨A3, _, k3⟩ } (.slice A3 _ k3) rfl rfl HC4.out (by decide) rfl rfl size28 ?_; intro w5 hb5 hg5 hs5; have HC5 := Lib.hid hb5; have HBW5 := Lib.hid (HBW4.out.grown hg5 HBW4.out.size (fun j hj => by cases hj; exact Nat.le_refl _)); have HR5 := Lib.hid (HR4.out.grown hg5 HC4.out (by decide)); have HR35 := Lib.hid (HR34.out.grown hg5 HC4.out (by decide)); have HZ5 := Lib.hid ((hg5.block _ (heap_lt HZ4.out) (by simp)).trans HZ4.out); clear hb5 hg5 hs5)
            | (refine rw_load (α := Cv) rfl (.tmp 2) rfl w.heap.size 0 rfl { cv with c := ⟨A1, _, k1⟩, d := ⟨A3, _, k3⟩ } (range_row HC5.out) ?_)
            | (refine rw_store (α := Cv) rfl (.tmp 4) (.tmp 59) rfl (w.heap.size + 1) { cv with c := ⟨A1, _, k1⟩, d := ⟨A3, _, k3⟩ } _ (arr_size _) rfl rfl HZ5.out ?_; intro w6 hb6 hg6 hs6; have HC6 := Lib.hid hb6; have HBW6 := Lib.hid (HBW5.out.grown hg6 HBW5.out.size (fun j hj => by cases hj; omega)); have HR6 := Lib.hid (HR5.out.grown hg6 HZ5.out (by decide)); have HR36 := Lib.hid (HR35.out.grown hg6 HZ5.out (by decide)); clear hb6 hg6 hs6))
          (try simp only [Exit.inBlock, Exit.then])
          refine bodyPost_ret (res_row1 (α := Cv) Tryz.results122 _ _ (w.heap.size + 1) { cv with c := ⟨A1, _, k1⟩, d := ⟨A3, _, k3⟩ } rfl HC6.out) rfl ?_
          rw [HPC.out]
          exact ⟨_, rfl, ⟨HCA.out.hs.below HBW6.out, HCA.out.fs.below HBW6.out, HR6.out.mono (Nat.zero_le _), HR36.out.mono (Nat.zero_le _)⟩, HBW6.out⟩
end Go.Proofs.YtokhnbdhcehonaaGreat
