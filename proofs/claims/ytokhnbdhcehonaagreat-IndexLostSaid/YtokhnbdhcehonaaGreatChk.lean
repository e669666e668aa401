/- index: rec.has, Check. -/
import Derived.Test.YtokhnbdhcehonaaGreatEqT
import Derived.Lib.OthersKept
set_option linter.unusedSimpArgs false
set_option linter.unusedVariables false
namespace Go.Proofs.YtokhnbdhcehonaaGreat
open Go Go.RowKit Row
set_option maxRecDepth 100000
def setL (c : Nat) (o x : Ch) : Ch :=
  if c = 101 then { o with e := x.e } else if c = 115 then { o with s := x.s } else if c = 117 then { o with up := x.up } else if c = 110 then { o with name := x.name }
  else if c = 99 then { o with ch := x.ch } else if c = 97 then { o with a := x.a } else if c = 98 then { o with no := x.no } else { o with sl := x.sl }
def okL (c : Nat) (x : Ch) : Bool :=
  if c = 101 then numP x.e 1 4294967295 else if c = 115 then decide (1 ≤ x.s) else if c = 117 then txtP x.up 1 64 else if c = 110 then txtP x.name 1 255
  else if c = 99 then txtP x.ch 0 64 else if c = 97 then atP x.a else if c = 98 then numP x.no 0 65535 else numP x.sl 0 65535
def lets : List Nat := [101, 115, 117, 110, 99, 97, 98, 116]
theorem field_any {w : World} {bo bx : Nat} {o x : Ch} (ho : w.heap[bo]? = some (.cells (arr o) 69)) (hx : w.heap[bx]? = some (.cells (arr x) 69)) (hne : bx ≠ bo) (c : Nat) (hc : c ∈ lets) :
    Calls Tryz.prog 97 #[.pointer (some ⟨bo, 0, none⟩), .pointer (some ⟨bx, 0, none⟩), .int .i32 c] w (FieldV bo (setL c o x) (okL c x) w) := by
  simp only [lets, List.mem_cons, List.not_mem_nil, or_false] at hc
  rcases hc with rfl | rfl | rfl | rfl | rfl | rfl | rfl | rfl
  · exact field_e ho hx hne
  · exact field_s ho hx hne
  · exact field_u ho hx hne
  · exact field_n ho hx hne
  · exact field_c ho hx hne
  · exact field_a ho hx hne
  · exact field_b ho hx hne
  · exact field_t ho hx hne
def hasS (k : Int) : ByteArray :=
  if k = 1 then ⟨#[101, 115, 117]⟩ else if k = 2 then ⟨#[101, 115]⟩ else if k = 3 then ⟨#[117, 97]⟩ else if k = 4 ∨ k = 5 then ⟨#[117]⟩ else if k = 6 then ⟨#[117, 110, 99]⟩
  else if k = 7 then ⟨#[117, 110]⟩ else if k = 8 then ⟨#[117, 98, 116]⟩ else if k = 9 then ⟨#[117, 98]⟩ else ⟨#[]⟩
set_option maxHeartbeats 4000000 in
theorem has_any (k : Int) (w : World) : Calls Tryz.prog 96 #[.int .i64 k] w fun e w' => e = .returned (.string (hasS k)) ∧ w' = w := by
  by_cases hk : k = 1 ∨ k = 2 ∨ k = 3 ∨ k = 4 ∨ k = 5 ∨ k = 6 ∨ k = 7 ∨ k = 8 ∨ k = 9
  · rcases hk with rfl | rfl | rfl | rfl | rfl | rfl | rfl | rfl | rfl
    all_goals
      go_enter Tryz.func96, Tryz.ntmps96
      go_wp2_with fail
      go_ret
      exact ⟨rfl, rfl⟩
  · have n1 : ¬ k = 1 := fun h => hk (by omega)
    have n2 : ¬ k = 2 := fun h => hk (by omega)
    have n3 : ¬ k = 3 := fun h => hk (by omega)
    have n4 : ¬ k = 4 := fun h => hk (by omega)
    have n5 : ¬ k = 5 := fun h => hk (by omega)
    have n6 : ¬ k = 6 := fun h => hk (by omega)
    have n7 : ¬ k = 7 := fun h => hk (by omega)
    have n8 : ¬ k = 8 := fun h => hk (by omega)
    have n9 : ¬ k = 9 := fun h => hk (by omega)
    have hs : hasS k = ⟨#[]⟩ := by unfold hasS; simp [n1, n2, n3, n4, n5, n6, n7, n8, n9]
    have e1 : (k == 1) = false := by simp [n1]
    have e2 : (k == 2) = false := by simp [n2]
    have e3 : (k == 3) = false := by simp [n3]
    have e4 : (k == 4) = false := by simp [n4]
    have e5 : (k == 5) = false := by simp [n5]
    have e6 : (k == 6) = false := by simp [n6]
    have e7 : (k == 7) = false := by simp [n7]
    have e8 : (k == 8) = false := by simp [n8]
    have e9 : (k == 9) = false := by simp [n9]
    rw [hs]
    clear hk n1 n2 n3 n4 n5 n6 n7 n8 n9 hs
    go_enter Tryz.func96, Tryz.ntmps96
    go_wp2_with fail
    go_ret
    exact ⟨rfl, rfl⟩
def codes (s : ByteArray) : List Nat := s.data.toList.map (·.toNat)
def only (x : Ch) : Ch := ⟨x.k, 0, 0, ⟨#[]⟩, ⟨#[]⟩, ⟨#[]⟩, At.zero, 0, 0⟩
def sets (l : List Nat) (x : Ch) : Ch := l.foldl (fun o c => setL c o x) (only x)
def chkP (x : Ch) : Bool := (codes (hasS x.k)).all (fun c => okL c x) && (!(hasS x.k).toList.isEmpty && decide (sets (codes (hasS x.k)) x = x))
theorem hasS_lets (k : Int) : ∀ c ∈ codes (hasS k), c ∈ lets := by
  unfold hasS
  repeat (first | split | (intro c hc; simp [codes] at hc; simp [lets]; omega) | (intro c hc; simp [codes] at hc))
set_option maxHeartbeats 16000000 in
theorem check_any (x : Ch) (w : World) : Calls Tryz.prog 58 #[.agg (arr x)] w fun e w' => e = .returned (.int .i64 (if chkP x = true then 0 else 14)) ∧ Below w.heap.size w w' := by
  have x0 : (w.alloc (.cells (arr x) 69)).cell? ⟨w.heap.size, 0, none⟩ = some (.int .i64 x.k) := by rw [row_cell (heap_alloc_new _ _)]; rfl
  have HH := Lib.hid (fun w => has_any x.k w)
  have HL := Lib.hid (hasS_lets x.k)
  obtain ⟨r, hr⟩ : ∃ r, r = chkP x := ⟨_, rfl⟩
  rw [← hr]
  unfold chkP at hr
  generalize hasS x.k = s at HH HL hr
  have HR := Lib.hid hr
  clear hr
  have hbx0 : (((w.alloc (.cells (arr x) 69)).alloc (.cells (arr (only x)) (RowT.T Ch))).iter s 0).heap[w.heap.size]? = some (.cells (arr x) 69) := heap_old_at (heap_old_at (heap_alloc_new _ _))
  have hbo0 : (((w.alloc (.cells (arr x) 69)).alloc (.cells (arr (only x)) (RowT.T Ch))).iter s 0).heap[w.heap.size + 1]? = some (.cells (arr (only x)) 69) := heap_old_at (heap_new_at _ _ (alloc_size _ _))
  have hbi0 : (((w.alloc (.cells (arr x) 69)).alloc (.cells (arr (only x)) (RowT.T Ch))).iter s 0).heap[w.heap.size + 1 + 1]? = some (.stringIter s 0) := heap_new_at _ _ (by rw [alloc_size, alloc_size])
  have hbw0 : Below w.heap.size w (((w.alloc (.cells (arr x) 69)).alloc (.cells (arr (only x)) (RowT.T Ch))).iter s 0) := by unfold World.iter; go_grown
  have H0 := Lib.hid (And.intro hbx0 (And.intro hbo0 (And.intro hbi0 hbw0)))
  clear hbx0 hbo0 hbi0 hbw0
  go_enter Tryz.func58, Tryz.ntmps58
  go_wp2_with fail
  refine (HH.out _).mono ?_
  rintro e w1 ⟨rfl, rfl⟩
  go_wp2_with (refine rw_put (α := Ch) _ 4 (.tmp 12) rfl rfl rfl rfl rfl rfl (only x) rfl rfl ?_)
  go_loopw [6] (fun _ wq => ∃ pos : Nat, pos ≤ s.size ∧ wq.heap[w.heap.size + 1 + 1]? = some (.stringIter s pos) ∧ wq.heap[w.heap.size]? = some (.cells (arr x) 69) ∧ wq.heap[w.heap.size + 1]? = some (.cells (arr (sets ((codes s).take pos) x)) 69) ∧ (∀ c ∈ (codes s).take pos, okL c x = true) ∧ Below w.heap.size w wq) (fun _ wq => s.size - wq.iterPos (w.heap.size + 1 + 1))
  case atStart => exact ⟨0, Nat.zero_le _, H0.out.2.2.1, H0.out.1, H0.out.2.1, fun c hc => by simp at hc, H0.out.2.2.2⟩
  case round =>
    obtain ⟨pos, hps, hit, hbx, hbo, hno, hbw⟩ := hrel
    have HIT := Lib.hid hit
    have HBX := Lib.hid hbx
    have HBO := Lib.hid hbo
    have HNO := Lib.hid hno
    have HBW := Lib.hid hbw
    clear hit hbx hbo hno hbw
    have hcl : (codes s).length = s.size := by simp [codes]
    by_cases hp : pos < s.size
    · have hpc : pos < (codes s).length := by omega
      have hce : (codes s)[pos] = (s[pos]'hp).toNat := by simp [codes]; rfl
      have hmem := HL.out _ (List.getElem_mem hpc)
      have ha : (s[pos]'hp).toNat < 128 := by
        rw [← hce]
        simp only [lets, List.mem_cons, List.not_mem_nil, or_false] at hmem
        omega
      have hn := Lib.run_next_ascii_at (P := Tryz.prog) wr (w.heap.size + 1 + 1) s pos 0 HIT.out hp ha
      rw [← hce] at hn
      have HT : Hid ((codes s).take (pos + 1) = (codes s).take pos ++ [(codes s)[pos]]) := Lib.hid (List.take_succ_eq_append_getElem hpc)
      have HMC : Hid ((codes s)[pos] ∈ codes s) := Lib.hid (List.getElem_mem hpc)
      clear hce ha
      generalize (codes s)[pos] = c at *
      have HF := Lib.hid (field_any (w := wr.iterAt (w.heap.size + 1 + 1) s (pos + 1)) (bo := w.heap.size + 1) (bx := w.heap.size) (o := sets ((codes s).take pos) x) (x := x) (by rw [Lib.iterAt_other _ _ _ _ _ (by omega)]; exact HBO.out) (by rw [Lib.iterAt_other _ _ _ _ _ (by omega)]; exact HBX.out) (by omega) c hmem)
      have HW1 := Lib.hid (Lib.below_iterAt HBW.out (k := w.heap.size + 1 + 1) (by omega) s (pos + 1))
      have HBX1 : Hid ((wr.iterAt (w.heap.size + 1 + 1) s (pos + 1)).heap[w.heap.size]? = some (.cells (arr x) 69)) := Lib.hid (by rw [Lib.iterAt_other _ _ _ _ _ (by omega)]; exact HBX.out)
      have HIT1 := Lib.hid (Lib.iterAt_heap wr (w.heap.size + 1 + 1) s pos (pos + 1) HIT.out)
      cases hok : okL c x with
      | false =>
        rw [hok] at HF
        have hrf : r = false := by
          rw [HR.out, List.all_eq_false.2 ⟨c, HMC.out, by rw [hok]; simp⟩]
          rfl
        subst hrf
        clear hok hmem
        go_wp2_with fail
        refine HF.out.mono ?_
        rintro e w2 ⟨rfl, hbo2, hg2⟩
        have HB2 := Lib.hid (HW1.out.grown hg2 HW1.out.size (fun j hj => by cases hj; exact Nat.le_succ _))
        clear hbo2 hg2
        go_wp2_with fail
        go_returns
        exact ⟨rfl, HB2.out⟩
      | true =>
        rw [hok] at HF
        have HOK := Lib.hid hok
        clear hok hmem
        go_wp2_with fail
        refine HF.out.mono ?_
        rintro e w2 ⟨rfl, hbo2, hg2⟩
        have HB2 := Lib.hid (HW1.out.grown hg2 HW1.out.size (fun j hj => by cases hj; exact Nat.le_succ _))
        have HX2 := Lib.hid ((hg2.block _ (heap_lt HBX1.out) (by simp)).trans HBX1.out)
        have HI2 := Lib.hid ((hg2.block _ (heap_lt HIT1.out) (by simp)).trans HIT1.out)
        have HO2 := Lib.hid hbo2
        clear hbo2 hg2
        go_wp2_with fail
        go_roundw
        case rel => exact ⟨pos + 1, by omega, HI2.out, HX2.out, by rw [HT.out]; unfold sets; rw [List.foldl_append]; exact HO2.out, fun c' hc' => by
          rw [HT.out] at hc'
          rcases List.mem_append.1 hc' with h1 | h1
          · exact HNO.out c' h1
          · rw [List.mem_singleton.1 h1]; exact HOK.out, HB2.out⟩
        case measure =>
          have e1 : w2.iterPos (w.heap.size + 1 + 1) = pos + 1 := by simp [World.iterPos, HI2.out]
          have e2 : wr.iterPos (w.heap.size + 1 + 1) = pos := by simp [World.iterPos, HIT.out]
          rw [e1, e2]
          omega
    · obtain rfl : pos = s.size := by omega
      have hn := Lib.run_next_end_at (P := Tryz.prog) wr (w.heap.size + 1 + 1) s s.size 0 HIT.out hp
      have HTA : Hid ((codes s).take s.size = codes s) := Lib.hid (by rw [← hcl, List.take_length])
      rw [HTA.out] at HBO HNO
      have hall : (codes s).all (fun c => okL c x) = true := List.all_eq_true.2 HNO.out
      cases hem : s.toList.isEmpty with
      | true =>
        have hse : (s.toList == []) = true := by simpa [List.isEmpty_iff] using hem
        have hrf : r = false := by rw [HR.out, hem]; simp
        subst hrf
        go_wp2_with fail
        go_returns
        exact ⟨rfl, HBW.out⟩
      | false =>
        have hse : (s.toList == []) = false := by
          cases hs : s.toList with
          | nil => rw [hs] at hem; cases hem
          | cons a l => rfl
        obtain ⟨q, hq⟩ : ∃ q, q = decide (sets (codes s) x = x) := ⟨_, rfl⟩
        have hrf : r = q := by rw [HR.out, hall, hem, hq]; rfl
        subst hrf
        have HQ := Lib.hid hq
        clear hem hq hall
        cases r
        all_goals
          go_wp2_with (first
            | (refine rg_load (α := Ch) rfl (.tmp 4) rfl (w.heap.size + 1) 0 rfl (sets (codes s) x) (range_row HBO.out) ?_)
            | (refine rg_load (α := Ch) rfl (.tmp 1) rfl w.heap.size 0 rfl x (range_row HBX.out) ?_)
            | (refine rg_neq (.tmp 24) (.tmp 25) 69 rfl rfl (sets (codes s) x) x rfl rfl ?_; rw [← HQ.out]))
          go_returns
          exact ⟨rfl, HBW.out⟩
end Go.Proofs.YtokhnbdhcehonaaGreat
