/- sum's functions, and the reference's. -/
import Derived.Test.YthacpfijoadclaaRun
namespace Go.Proofs.Ythacpfijoadclaa
open Go Go.RowKit

theorem Sum.below {w w' : World} {g : Nat} {n : Int} (h : Sum w g n) (hb : Below w.heap.size w w') : Sum w' g n := h.elim (fun h => .inl (h.below hb)) (fun h => .inr (h.below hb))
theorem Sum.c3 {w : World} {g : Nat} {n : Int} (h : Sum w g n) : w.cell? ⟨g, 3, none⟩ = some (.int .i64 n) ∧ w.frozen? ⟨g, 3, none⟩ = false := h.elim (fun h => ⟨h.c3, h.fz 3⟩) (fun h => ⟨h.c3, h.fz 3⟩)
theorem Sum.s3 {w : World} {g : Nat} {n : Int} (h : Sum w g n) (x : Int) : Sum (w.setCell ⟨g, 3, none⟩ (.int .i64 x)) g x := h.elim (fun h => .inl (h.s3 x)) (fun h => .inr (h.s3 x))

theorem of_any (g : Nat) (n : Int) (s : ByteArray) (hsz : s.size ≤ maxLen) (w : World) (h : Sum w g n) (h1 : 0 ≤ n) (h2 : n ≤ 1000000) :
    Calls Try.prog 10 #[.pointer (some ⟨g, 0, none⟩), .string s] w fun e w' => e = .returned (.int .u32 (nv (sumS s))) ∧ Only g w w' ∧ Sum w' g (n + 1) := by
  have HA := Lib.hid (add_any g n w h.c3.1 h.c3.2 h1 h2)
  have HR := Lib.hid (run_any g (n + 1) allOne s hsz _ (h.s3 (n + 1)))
  have HO := Lib.hid ((Only.refl g w).set 3 (.int .i64 (n + 1)))
  have hx : bits .xor .u32 (nv (runS allOne s.data.toList)) 4294967295 = nv (sumS s) := m_all _
  clear h
  go_enter Try.func10, Try.ntmps10
  go_wp2_with fail
  refine HA.out.mono ?_
  rintro e w' ⟨rfl, rfl⟩
  go_wp2_with fail
  refine HR.out.mono ?_
  rintro e w' ⟨rfl, ho, hs⟩
  have HX := Lib.hid (And.intro (HO.out.trans ho) hs)
  clear ho hs
  go_wp2_with fail
  go_ret
  exact ⟨rfl, HX.out⟩
theorem more_any (g : Nat) (n : Int) (q : W32) (s : ByteArray) (hsz : s.size ≤ maxLen) (w : World) (h : Sum w g n) (h1 : 0 ≤ n) (h2 : n ≤ 1000000) :
    Calls Try.prog 13 #[.pointer (some ⟨g, 0, none⟩), .int .u32 (nv q), .string s] w fun e w' => e = .returned (.int .u32 (nv (runS (q ^^^ allOne) s.data.toList ^^^ allOne))) ∧ Only g w w' ∧ Sum w' g (n + 1) := by
  have HA := Lib.hid (add_any g n w h.c3.1 h.c3.2 h1 h2)
  obtain ⟨q', hq'⟩ : ∃ x, x = q ^^^ allOne := ⟨_, rfl⟩
  have HR := Lib.hid (run_any g (n + 1) q' s hsz _ (h.s3 (n + 1)))
  have HO := Lib.hid ((Only.refl g w).set 3 (.int .i64 (n + 1)))
  have hx0 : bits .xor .u32 (nv q) 4294967295 = nv q' := by rw [hq']; exact m_all _
  obtain ⟨z, hz⟩ : ∃ x, x = runS q' s.data.toList ^^^ allOne := ⟨_, rfl⟩
  have hx : bits .xor .u32 (nv (runS q' s.data.toList)) 4294967295 = nv z := by rw [hz]; exact m_all _
  rw [← hq', ← hz]
  clear h hq' hz
  go_enter Try.func13, Try.ntmps13
  go_wp2_with fail
  refine HA.out.mono ?_
  rintro e w' ⟨rfl, rfl⟩
  go_wp2_with fail
  refine HR.out.mono ?_
  rintro e w' ⟨rfl, ho, hs⟩
  have HX := Lib.hid (And.intro (HO.out.trans ho) hs)
  clear ho hs
  go_wp2_with fail
  go_ret
  exact ⟨rfl, HX.out⟩
theorem calls_any (g : Nat) (n : Int) (w : World) (h : Sum w g n) (h1 : 0 ≤ n) (h2 : n ≤ 1000000) :
    Calls Try.prog 14 #[.pointer (some ⟨g, 0, none⟩)] w fun e w' => e = .returned (.int .i64 n) ∧ w = w' := by
  have HL := Lib.hid (load_any g n w h.c3.1)
  clear h
  go_enter Try.func14, Try.ntmps14
  go_wp2_with fail
  refine HL.out.mono ?_
  rintro e w' ⟨rfl, rfl⟩
  go_wp2_with fail
  go_ret
  exact ⟨rfl, rfl⟩
theorem sum_any (s : ByteArray) (hsz : s.size ≤ maxLen) (w : World) :
    Calls Try.prog 12 #[.string s] w fun e w' => e = .returned (.int .u32 (nv (sumS s))) ∧ Below w.heap.size w w' := by
  go_enter Try.func12, Try.ntmps12
  go_wp2_with fail
  refine (new_any w).mono ?_
  rintro e w1 ⟨rfl, hb, hs⟩
  have HO := Lib.hid (of_any w.heap.size 0 s hsz w1 (.inl hs) (by omega) (by omega))
  have HB := Lib.hid hb
  clear hs hb
  go_wp2_with fail
  refine HO.out.mono ?_
  rintro e w2 ⟨rfl, ho, _⟩
  have HX := Lib.hid (HB.out.trans (ho.below (Nat.le_refl _)))
  clear ho
  go_wp2_with fail
  go_ret
  exact ⟨rfl, HX.out⟩

/-! ### of no summer -/
theorem of_nil (s : ByteArray) (w : World) : Calls Try.prog 10 #[.pointer none, .string s] w fun e w' => e = .returned (.int .u32 0) ∧ w = w' := by
  go_enter Try.func10, Try.ntmps10
  go_wp2
  go_ret
  exact ⟨rfl, rfl⟩
theorem more_nil (n : Int) (s : ByteArray) (w : World) : Calls Try.prog 13 #[.pointer none, .int .u32 n, .string s] w fun e w' => e = .returned (.int .u32 0) ∧ w = w' := by
  go_enter Try.func13, Try.ntmps13
  go_wp2
  go_ret
  exact ⟨rfl, rfl⟩
theorem calls_nil (w : World) : Calls Try.prog 14 #[.pointer none] w fun e w' => e = .returned (.int .i64 0) ∧ w = w' := by
  go_enter Try.func14, Try.ntmps14
  go_wp2
  go_ret
  exact ⟨rfl, rfl⟩

/-! ### the fixed calls -/
theorem sum_digits : sumS ⟨#[49, 50, 51, 52, 53, 54, 55, 56, 57]⟩ = 3808858755#32 := by decide +kernel
theorem sum_empty : sumS ⟨#[]⟩ = 0#32 := by decide +kernel
theorem known_any (w : World) : Calls Try.prog 8 #[] w fun e w' => e = .returned (.bool true) ∧ Below w.heap.size w w' := by
  have h1 := fun w' => sum_any ⟨#[49, 50, 51, 52, 53, 54, 55, 56, 57]⟩ (by unfold maxLen; decide) w'
  have h2 := fun w' => sum_any ⟨#[]⟩ (by unfold maxLen; decide) w'
  rw [sum_digits, show nv 3808858755#32 = 3808858755 from rfl] at h1
  rw [sum_empty, show nv 0#32 = 0 from rfl] at h2
  have H1 := Lib.hid h1
  have H2 := Lib.hid h2
  clear h1 h2
  go_enter Try.func8, Try.ntmps8
  go_wp2_with fail
  refine (H1.out _).mono ?_
  rintro e w1 ⟨rfl, hb1⟩
  have HB := Lib.hid hb1
  clear hb1
  go_wp2_with fail
  refine (H2.out _).mono ?_
  rintro e w2 ⟨rfl, hb2⟩
  have HB2 := Lib.hid (HB.out.trans (hb2.mono HB.out.size))
  clear hb2
  go_wp2_with fail
  go_ret
  exact ⟨rfl, HB2.out⟩

/-! ### the reference -/
theorem ref_yes {q : W32} (h : odd q = true) : bits .xor .u32 (nv (q >>> 1)) 2197175160 = nv (stepB q) := by
  rw [m_turn, stepB, if_pos h]
theorem ref_no {q : W32} (h : odd q = false) : nv (q >>> 1) = nv (stepB q) := by
  rw [stepB, if_neg (by simp [h])]
set_option maxRecDepth 100000 in
set_option maxHeartbeats 4000000 in
theorem ref_any (s : ByteArray) (hsz : s.size ≤ maxLen) (w : World) : Calls Try.prog 11 #[.string s] w fun e w' => e = .returned (.int .u32 (nv (sumS s))) ∧ w = w' := by
  unfold maxLen at hsz
  go_enter Try.func11, Try.ntmps11
  go_wp2
  go_loop [3, 4] (fun r i => ∃ k : Nat, k ≤ s.size ∧ i = .int .i64 k ∧ r = .int .u32 (nv (runS allOne (s.data.toList.take k)))) (fun _ i => s.size - (intOf i).toNat)
  case atStart => exact ⟨0, by omega, rfl, rfl⟩
  case round =>
    obtain ⟨k, hk, rfl, rfl⟩ := hrel
    by_cases hlt : k < s.size
    · obtain ⟨q, hq⟩ : ∃ q, q = runS allOne (s.data.toList.take k) := ⟨_, rfl⟩
      obtain ⟨q1, hq1⟩ : ∃ x, x = q ^^^ ofB s[k] := ⟨_, rfl⟩
      have f0 : (s[k].toNat : Int) ≤ 255 := by have := s[k].toNat_lt; omega
      have f1 : bits .xor .u32 (nv q) (s[k].toNat : Int) = nv q1 := by rw [hq1]; exact m_byte q s[k]
      have HQ : Hid (stepN 8 q1 = runS allOne (s.data.toList.take (k + 1))) := by
        show stepN 8 q1 = _
        rw [bytes_at hlt, runS_snoc, ← hq, hq1]; rfl
      rw [← hq]
      clear hq hq1
      have hki : (k : Int) < (s.size : Int) := by omega
      go_wp2_with fail
      go_loop [3, 5, 6] (fun r c _ => ∃ j : Nat, j ≤ 8 ∧ c = .int .i64 j ∧ r = .int .u32 (nv (stepN j q1))) (fun _ c _ => 8 - (intOf c).toNat)
      case atStart => exact ⟨0, by omega, rfl, rfl⟩
      case round =>
        obtain ⟨j, hj, rfl, rfl⟩ := hrel
        by_cases hlj : j < 8
        · obtain ⟨y, hy⟩ : ∃ y, y = stepN j q1 := ⟨_, rfl⟩
          obtain ⟨z, hz⟩ : ∃ z, z = stepB y := ⟨_, rfl⟩
          have HZ : Hid (z = stepN (j + 1) q1) := by
            show z = _
            rw [hz, hy]; rfl
          have l0 := nv_lo y
          have l1 := nv_hi y
          have e2 := m_rem2 y
          rw [← hy]
          cases ho : odd y with
          | true =>
            rw [ho] at e2
            obtain ⟨y', hy'⟩ : ∃ y', y' = y >>> 1 := ⟨_, rfl⟩
            have e3 : nv y / (2 : Int) = nv y' := by rw [hy']; exact m_shr1 y
            have e4 : bits .xor .u32 (nv y') 2197175160 = nv z := by rw [hz, hy']; exact ref_yes ho
            have e5 : nv y % (2 : Int) = 1 := by simpa using e2
            clear e2 hy hz hy' ho
            go_wp2_with fail
            go_roundw
            case rel => exact ⟨j + 1, by omega, by go_num, by rw [HZ.out]⟩
            case measure => simp [intOf]; omega
          | false =>
            rw [ho] at e2
            have e3 : nv y / (2 : Int) = nv z := by rw [hz, ← ref_no ho]; exact m_shr1 y
            have e5 : nv y % (2 : Int) = 0 := by simpa using e2
            clear e2 hy hz ho
            go_wp2_with fail
            go_roundw
            case rel => exact ⟨j + 1, by omega, by go_num, by rw [e3, HZ.out]⟩
            case measure => simp [intOf]; omega
        · obtain rfl : j = 8 := by omega
          go_wp2_with fail
          go_roundw
          case rel => exact ⟨k + 1, by omega, by go_num, by rw [HQ.out]⟩
          case measure => simp [intOf]; omega
    · obtain rfl : k = s.size := by omega
      have ht : s.data.toList.take s.size = s.data.toList := List.take_of_length_le (Nat.le_refl _)
      rw [ht]
      have l0 := nv_lo (runS allOne s.data.toList)
      have l1 := nv_hi (runS allOne s.data.toList)
      have e1 : (4294967295 : Int) - nv (runS allOne s.data.toList) = nv (sumS s) := m_sub _
      go_wp2_with fail
      go_ret
      exact ⟨rfl, rfl⟩
end Go.Proofs.Ythacpfijoadclaa
