/- perm.Access with its closure, and the reference's Access: contracts. -/
import Derived.Test.YtkffddaogogigaaBase
import Derived.Test.YtkffddaogogigaaBits
import Derived.Test.YtkffddaogogigaaBitsLaw
import Derived.Test.YtkffddaogogigaaProg
import Derived.ProofKit
import Derived.Handy
import Derived.Lib.Hide
namespace Go.Proofs.Ytkffddaogogigaa
open Go.RowKit

def giveF (B bit what h : Int) : Int := if mayB bit B then bits .or .i64 h what else h

/-- the closure's world: three blocks, from n on: the node, the credential, what somebody has so far -/
structure Three (n : Nat) (a0 a1 a2 a3 a4 a5 a6 a7 a8 a9 c0 c1 c2 c3 h : Int) (w : World) : Prop where
  size : n + 2 < w.heap.size
  a : w.heap[n]? = some (.cells #[.int .i64 a0, .int .i64 a1, .int .i64 a2, .int .i64 a3, .int .i64 a4, .int .i64 a5, .int .i64 a6, .int .i64 a7, .int .i64 a8, .int .i64 a9] 23)
  c : w.heap[n + 1]? = some (.cells #[.int .i64 c0, .int .i64 c1, .int .i64 c2, .int .i64 c3] 25)
  h : w.heap[n + 2]? = some (.cells #[.int .i64 h] 3)

theorem cell_at {w : World} {b : Nat} {C : Array Value} {t : TypeId} (h : w.heap[b]? = some (.cells C t)) (o : Nat) : w.cell? ⟨b, o, none⟩ = C[o]? := by
  unfold World.cell?; simp [h]
theorem froz_at {w : World} {b : Nat} {C : Array Value} {t : TypeId} (h : w.heap[b]? = some (.cells C t)) (o : Nat) : w.frozen? ⟨b, o, none⟩ = false := by
  unfold World.frozen?; simp [h]
theorem set_at {w : World} {b : Nat} {x v : Value} {t : TypeId} (h : w.heap[b]? = some (.cells #[x] t)) : (w.setCell ⟨b, 0, none⟩ v).heap[b]? = some (.cells #[v] t) := by
  unfold World.setCell
  simp [Array.getElem?_modify, h]

def giveV (n : Nat) (a0 a1 a2 a3 a4 a5 a6 a7 a8 a9 c0 c1 c2 c3 h' : Int) (w : World) (e : Ending) (w' : World) : Prop :=
  e = .returned (.tuple #[]) ∧ Below n w w' ∧ Three n a0 a1 a2 a3 a4 a5 a6 a7 a8 a9 c0 c1 c2 c3 h' w'

set_option maxHeartbeats 800000 in
theorem give_any (n : Nat) (a0 a1 a2 a3 a4 a5 a6 a7 a8 a9 c0 c1 c2 c3 h bit what : Int) (w : World) (ht : Three n a0 a1 a2 a3 a4 a5 a6 a7 a8 a9 c0 c1 c2 c3 h w) :
    Calls Try.prog 19 #[.int .i64 bit, .int .i64 what, .pointer (some ⟨n, 0, none⟩), .pointer (some ⟨n + 1, 0, none⟩), .pointer (some ⟨n + 2, 0, none⟩)] w
      (giveV n a0 a1 a2 a3 a4 a5 a6 a7 a8 a9 c0 c1 c2 c3 (giveF (bitsF a1 a3 a4 c2 c3) bit what h) w) := by
  generalize hB : bitsF a1 a3 a4 c2 c3 = B
  have ca := cell_at ht.a
  have cc := cell_at ht.c
  have ch := cell_at ht.h
  have fh := froz_at ht.h
  go_enter Try.func19, Try.ntmps19
  go_wp2_with fail
  refine (may_any a0 a1 a2 a3 a4 a5 a6 a7 a8 a9 c0 c1 c2 c3 bit _).mono ?_
  rw [hB]
  rintro e w1 ⟨rfl, hb⟩
  obtain ⟨k1, k2⟩ := bcell hb
  have hs := ht.size
  have l0 : n < w.heap.size := by omega
  have l1 : n + 1 < w.heap.size := by omega
  have l2 : n + 2 < w.heap.size := by omega
  by_cases hm : mayB bit B = true
  · rw [hm]
    go_wp2_with fail
    go_returns
    refine ⟨rfl, Below.setCell (hb.mono (by omega)) (by simp) _, ?_⟩
    unfold giveF
    rw [if_pos hm]
    have hz := hb.size
    refine ⟨by simp; omega, ?_, ?_, set_at ((hb.block _ l2).trans ht.h)⟩
    · rw [Below.heap_setCell _ _ _ _ (by simp)]; exact (hb.block _ l0).trans ht.a
    · rw [Below.heap_setCell _ _ _ _ (by simp)]; exact (hb.block _ l1).trans ht.c
  · have hm : mayB bit B = false := by simpa using hm
    rw [hm]
    go_wp2_with fail
    go_returns
    refine ⟨rfl, hb.mono (by omega), ?_⟩
    unfold giveF
    rw [if_neg (by simp [hm])]
    have hz := hb.size
    exact ⟨by omega, (hb.block _ l0).trans ht.a, (hb.block _ l1).trans ht.c, (hb.block _ l2).trans ht.h⟩

def hasF (B ty : Int) : Int := giveF B 2 12 (giveF B 4 1 (if ty = 2 then giveF B 2 16 (giveF B 1 2 0) else giveF B 1 32 0))

theorem new_at (w : World) (o : Obj) : (w.alloc o).heap[w.heap.size]? = some o := by
  show (w.heap.push o)[w.heap.size]? = _
  simp

theorem heap_new {w w' : World} {o : Obj} {k : Nat} (h : w' = w.alloc o) (hk : k = w.heap.size) : w'.heap[k]? = some o := by
  rw [h, hk]; exact new_at w o

theorem three_new (a0 a1 a2 a3 a4 a5 a6 a7 a8 a9 c0 c1 c2 c3 h : Int) (w : World) :
    Three w.heap.size a0 a1 a2 a3 a4 a5 a6 a7 a8 a9 c0 c1 c2 c3 h (((w.alloc (.cells #[.int .i64 a0, .int .i64 a1, .int .i64 a2, .int .i64 a3, .int .i64 a4, .int .i64 a5, .int .i64 a6, .int .i64 a7, .int .i64 a8, .int .i64 a9] 23)).alloc (.cells #[.int .i64 c0, .int .i64 c1, .int .i64 c2, .int .i64 c3] 25)).alloc (.cells #[.int .i64 h] 3)) := by
  refine ⟨by simp, ?_, ?_, ?_⟩
  · rw [Below.heap_alloc _ _ _ (by simp; omega), Below.heap_alloc _ _ _ (by simp), new_at]
  · rw [Below.heap_alloc _ _ _ (by simp)]
    exact heap_new rfl (by simp)
  · exact heap_new rfl (by simp)

set_option maxHeartbeats 800000 in
theorem access_any (a0 a1 a2 a3 a4 a5 a6 a7 a8 a9 c0 c1 c2 c3 asked : Int) (w : World) :
    Calls Try.prog 17 #[.agg #[.int .i64 a0, .int .i64 a1, .int .i64 a2, .int .i64 a3, .int .i64 a4, .int .i64 a5, .int .i64 a6, .int .i64 a7, .int .i64 a8, .int .i64 a9], .agg #[.int .i64 c0, .int .i64 c1, .int .i64 c2, .int .i64 c3], .int .i64 asked] w
      fun e w' => e = .returned (.int .i64 (bits .and .i64 (hasF (bitsF a1 a3 a4 c2 c3) a0) asked)) ∧ Below w.heap.size w w' := by
  by_cases hd : (a0 == 2) = true
  · have hfin : hasF (bitsF a1 a3 a4 c2 c3) a0 = giveF (bitsF a1 a3 a4 c2 c3) 2 12 (giveF (bitsF a1 a3 a4 c2 c3) 4 1 (giveF (bitsF a1 a3 a4 c2 c3) 2 16 (giveF (bitsF a1 a3 a4 c2 c3) 1 2 0))) := by
      unfold hasF; rw [if_pos (by simpa using hd)]
    have HF := Lib.hid hfin
    clear hfin
    go_enter Try.func17, Try.ntmps17
    go_wp2_with fail
    refine (give_any w.heap.size a0 a1 a2 a3 a4 a5 a6 a7 a8 a9 c0 c1 c2 c3 0 1 2 _ (three_new a0 a1 a2 a3 a4 a5 a6 a7 a8 a9 c0 c1 c2 c3 0 w)).mono ?_
    rintro e w1 ⟨rfl, hb1, ht1⟩
    replace hb1 : Below w.heap.size w w1 := Below.trans (by go_grown) hb1
    go_wp2_with fail
    refine (give_any w.heap.size a0 a1 a2 a3 a4 a5 a6 a7 a8 a9 c0 c1 c2 c3 _ 2 16 _ ht1).mono ?_
    rintro e w2 ⟨rfl, hb2, ht2⟩
    replace hb2 := hb1.trans hb2
    clear hb1 ht1
    go_wp2_with fail
    refine (give_any w.heap.size a0 a1 a2 a3 a4 a5 a6 a7 a8 a9 c0 c1 c2 c3 _ 4 1 _ ht2).mono ?_
    rintro e w3 ⟨rfl, hb3, ht3⟩
    replace hb3 := hb2.trans hb3
    clear hb2 ht2
    go_wp2_with fail
    refine (give_any w.heap.size a0 a1 a2 a3 a4 a5 a6 a7 a8 a9 c0 c1 c2 c3 _ 2 12 _ ht3).mono ?_
    rintro e w4 ⟨rfl, hb4, ht4⟩
    replace hb4 := hb3.trans hb4
    clear hb3 ht3
    have ch := cell_at ht4.h
    rw [← HF.out] at ch
    go_wp2_with fail
    go_ret
    exact ⟨rfl, hb4⟩
  · have hd : (a0 == 2) = false := by simpa using hd
    have hfin : hasF (bitsF a1 a3 a4 c2 c3) a0 = giveF (bitsF a1 a3 a4 c2 c3) 2 12 (giveF (bitsF a1 a3 a4 c2 c3) 4 1 (giveF (bitsF a1 a3 a4 c2 c3) 1 32 0)) := by
      unfold hasF; rw [if_neg (by simpa using hd)]
    have HF := Lib.hid hfin
    clear hfin
    go_enter Try.func17, Try.ntmps17
    go_wp2_with fail
    refine (give_any w.heap.size a0 a1 a2 a3 a4 a5 a6 a7 a8 a9 c0 c1 c2 c3 0 1 32 _ (three_new a0 a1 a2 a3 a4 a5 a6 a7 a8 a9 c0 c1 c2 c3 0 w)).mono ?_
    rintro e w1 ⟨rfl, hb1, ht1⟩
    replace hb1 : Below w.heap.size w w1 := Below.trans (by go_grown) hb1
    go_wp2_with fail
    refine (give_any w.heap.size a0 a1 a2 a3 a4 a5 a6 a7 a8 a9 c0 c1 c2 c3 _ 4 1 _ ht1).mono ?_
    rintro e w3 ⟨rfl, hb3, ht3⟩
    replace hb3 := hb1.trans hb3
    clear hb1 ht1
    go_wp2_with fail
    refine (give_any w.heap.size a0 a1 a2 a3 a4 a5 a6 a7 a8 a9 c0 c1 c2 c3 _ 2 12 _ ht3).mono ?_
    rintro e w4 ⟨rfl, hb4, ht4⟩
    replace hb4 := hb3.trans hb4
    clear hb3 ht3
    have ch := cell_at ht4.h
    rw [← HF.out] at ch
    go_wp2_with fail
    go_ret
    exact ⟨rfl, hb4⟩

/-- the reference's: sums in the place of bits -/
def refHas (B ty : Int) : Int :=
  let x := if stepsB 4 B [1, 2, 4] then 1 else 0
  let y := if stepsB 2 B [1, 2, 4] then x + 12 else x
  if ty = 2 then
    let z := if stepsB 1 B [1, 2, 4] then y + 2 else y
    if stepsB 2 B [1, 2, 4] then z + 16 else z
  else if stepsB 1 B [1, 2, 4] then y + 32 else y
theorem has_tab : ∀ B : Fin 8, refHas (B.val : Int) 2 = hasF (B.val : Int) 2 ∧ refHas (B.val : Int) 0 = hasF (B.val : Int) 0 := by decide +kernel
theorem ref_has (B ty : Int) (h0 : 0 ≤ B) (h1 : B ≤ 7) : refHas B ty = hasF B ty := by
  have h := has_tab ⟨B.toNat, by omega⟩
  have e : ((B.toNat : Nat) : Int) = B := by omega
  simp only [e] at h
  by_cases ht : ty = 2
  · subst ht; exact h.1
  · have e1 : refHas B ty = refHas B 0 := by unfold refHas; simp only [ht, if_false]; rfl
    have e2 : hasF B ty = hasF B 0 := by unfold hasF; simp only [ht, if_false]; rfl
    rw [e1, e2]; exact h.2

set_option maxHeartbeats 4000000 in
theorem refaccess_any (a0 a1 a2 a3 a4 a5 a6 a7 a8 a9 c0 c1 c2 c3 asked : Int) (w : World) :
    Calls Try.prog 18 #[.agg #[.int .i64 a0, .int .i64 a1, .int .i64 a2, .int .i64 a3, .int .i64 a4, .int .i64 a5, .int .i64 a6, .int .i64 a7, .int .i64 a8, .int .i64 a9], .agg #[.int .i64 c0, .int .i64 c1, .int .i64 c2, .int .i64 c3], .int .i64 asked] w
      fun e w' => e = .returned (.int .i64 (bits .and .i64 (refHas (bitsF a1 a3 a4 c2 c3) a0) asked)) ∧ Below w.heap.size w w' := by
  generalize hB : bitsF a1 a3 a4 c2 c3 = B
  have hfin : refHas B a0 = refHas B a0 := rfl
  conv at hfin => rhs; unfold refHas
  obtain ⟨s4, h4⟩ : ∃ s, stepsB 4 B [1, 2, 4] = s := ⟨_, rfl⟩
  obtain ⟨s2, h2⟩ : ∃ s, stepsB 2 B [1, 2, 4] = s := ⟨_, rfl⟩
  obtain ⟨s1, h1⟩ : ∃ s, stepsB 1 B [1, 2, 4] = s := ⟨_, rfl⟩
  rw [h4, h2, h1] at hfin
  have HF := Lib.hid hfin
  have H4 := Lib.hid h4
  have H2 := Lib.hid h2
  have H1 := Lib.hid h1
  clear hfin h4 h2 h1
  go_enter Try.func18, Try.ntmps18
  go_wp2_with fail
  refine (refmay_any a0 a1 a2 a3 a4 a5 a6 a7 a8 a9 c0 c1 c2 c3 4 _).mono ?_
  rw [hB, H4.out]
  rintro e w1 ⟨rfl, hb1⟩
  obtain ⟨k1, -⟩ := bcell hb1
  have hz1 := hb1.size
  simp at hz1
  replace hb1 : Below w.heap.size w w1 := Below.trans (by go_grown) (hb1.mono (by simp; omega))
  have l1a : w.heap.size < w1.heap.size := by omega
  have l1b : w.heap.size + 1 < w1.heap.size := by omega
  cases s4
  · -- s4
    go_wp2_with fail
    refine (refmay_any a0 a1 a2 a3 a4 a5 a6 a7 a8 a9 c0 c1 c2 c3 2 _).mono ?_
    rw [hB, H2.out]
    rintro e w2 ⟨rfl, hb2⟩
    obtain ⟨k2, -⟩ := bcell hb2
    have hz2 := hb2.size
    replace hb2 : Below w.heap.size w w2 := hb1.trans (hb2.mono (by omega))
    have l2a : w.heap.size < w2.heap.size := by omega
    have l2b : w.heap.size + 1 < w2.heap.size := by omega
    cases s2
    · by_cases hd : (a0 == 2) = true
      · go_wp2_with fail
        refine (refmay_any a0 a1 a2 a3 a4 a5 a6 a7 a8 a9 c0 c1 c2 c3 1 _).mono ?_
        rw [hB, H1.out]
        rintro e w3 ⟨rfl, hb3⟩
        obtain ⟨k3, -⟩ := bcell hb3
        have hz3 := hb3.size
        replace hb3 : Below w.heap.size w w3 := hb2.trans (hb3.mono (by omega))
        have l3a : w.heap.size < w3.heap.size := by omega
        have l3b : w.heap.size + 1 < w3.heap.size := by omega
        cases s1
        · go_wp2_with fail
          refine (refmay_any a0 a1 a2 a3 a4 a5 a6 a7 a8 a9 c0 c1 c2 c3 2 _).mono ?_
          rw [hB, H2.out]
          rintro e w4 ⟨rfl, hb4⟩
          obtain ⟨k4, -⟩ := bcell hb4
          have hz4 := hb4.size
          replace hb4 : Below w.heap.size w w4 := hb3.trans (hb4.mono (by omega))
          have l4a : w.heap.size < w4.heap.size := by omega
          have l4b : w.heap.size + 1 < w4.heap.size := by omega
          go_wp2_with fail
          go_ret
          exact ⟨ret_int (by rw [HF.out]; simp [beq_iff_eq.1 hd]), hb4⟩
        · go_wp2_with fail
          refine (refmay_any a0 a1 a2 a3 a4 a5 a6 a7 a8 a9 c0 c1 c2 c3 2 _).mono ?_
          rw [hB, H2.out]
          rintro e w4 ⟨rfl, hb4⟩
          obtain ⟨k4, -⟩ := bcell hb4
          have hz4 := hb4.size
          replace hb4 : Below w.heap.size w w4 := hb3.trans (hb4.mono (by omega))
          have l4a : w.heap.size < w4.heap.size := by omega
          have l4b : w.heap.size + 1 < w4.heap.size := by omega
          go_wp2_with fail
          go_ret
          exact ⟨ret_int (by rw [HF.out]; simp [beq_iff_eq.1 hd]), hb4⟩
      · have hd : (a0 == 2) = false := by simpa using hd
        go_wp2_with fail
        refine (refmay_any a0 a1 a2 a3 a4 a5 a6 a7 a8 a9 c0 c1 c2 c3 1 _).mono ?_
        rw [hB, H1.out]
        rintro e w3 ⟨rfl, hb3⟩
        obtain ⟨k3, -⟩ := bcell hb3
        have hz3 := hb3.size
        replace hb3 : Below w.heap.size w w3 := hb2.trans (hb3.mono (by omega))
        have l3a : w.heap.size < w3.heap.size := by omega
        have l3b : w.heap.size + 1 < w3.heap.size := by omega
        cases s1
        · go_wp2_with fail
          go_ret
          exact ⟨ret_int (by rw [HF.out]; simp [beq_eq_false_iff_ne.1 hd]), hb3⟩
        · go_wp2_with fail
          go_ret
          exact ⟨ret_int (by rw [HF.out]; simp [beq_eq_false_iff_ne.1 hd]), hb3⟩
    · by_cases hd : (a0 == 2) = true
      · go_wp2_with fail
        refine (refmay_any a0 a1 a2 a3 a4 a5 a6 a7 a8 a9 c0 c1 c2 c3 1 _).mono ?_
        rw [hB, H1.out]
        rintro e w3 ⟨rfl, hb3⟩
        obtain ⟨k3, -⟩ := bcell hb3
        have hz3 := hb3.size
        replace hb3 : Below w.heap.size w w3 := hb2.trans (hb3.mono (by omega))
        have l3a : w.heap.size < w3.heap.size := by omega
        have l3b : w.heap.size + 1 < w3.heap.size := by omega
        cases s1
        · go_wp2_with fail
          refine (refmay_any a0 a1 a2 a3 a4 a5 a6 a7 a8 a9 c0 c1 c2 c3 2 _).mono ?_
          rw [hB, H2.out]
          rintro e w4 ⟨rfl, hb4⟩
          obtain ⟨k4, -⟩ := bcell hb4
          have hz4 := hb4.size
          replace hb4 : Below w.heap.size w w4 := hb3.trans (hb4.mono (by omega))
          have l4a : w.heap.size < w4.heap.size := by omega
          have l4b : w.heap.size + 1 < w4.heap.size := by omega
          go_wp2_with fail
          go_ret
          exact ⟨ret_int (by rw [HF.out]; simp [beq_iff_eq.1 hd]), hb4⟩
        · go_wp2_with fail
          refine (refmay_any a0 a1 a2 a3 a4 a5 a6 a7 a8 a9 c0 c1 c2 c3 2 _).mono ?_
          rw [hB, H2.out]
          rintro e w4 ⟨rfl, hb4⟩
          obtain ⟨k4, -⟩ := bcell hb4
          have hz4 := hb4.size
          replace hb4 : Below w.heap.size w w4 := hb3.trans (hb4.mono (by omega))
          have l4a : w.heap.size < w4.heap.size := by omega
          have l4b : w.heap.size + 1 < w4.heap.size := by omega
          go_wp2_with fail
          go_ret
          exact ⟨ret_int (by rw [HF.out]; simp [beq_iff_eq.1 hd]), hb4⟩
      · have hd : (a0 == 2) = false := by simpa using hd
        go_wp2_with fail
        refine (refmay_any a0 a1 a2 a3 a4 a5 a6 a7 a8 a9 c0 c1 c2 c3 1 _).mono ?_
        rw [hB, H1.out]
        rintro e w3 ⟨rfl, hb3⟩
        obtain ⟨k3, -⟩ := bcell hb3
        have hz3 := hb3.size
        replace hb3 : Below w.heap.size w w3 := hb2.trans (hb3.mono (by omega))
        have l3a : w.heap.size < w3.heap.size := by omega
        have l3b : w.heap.size + 1 < w3.heap.size := by omega
        cases s1
        · go_wp2_with fail
          go_ret
          exact ⟨ret_int (by rw [HF.out]; simp [beq_eq_false_iff_ne.1 hd]), hb3⟩
        · go_wp2_with fail
          go_ret
          exact ⟨ret_int (by rw [HF.out]; simp [beq_eq_false_iff_ne.1 hd]), hb3⟩
  · -- s4
    go_wp2_with fail
    refine (refmay_any a0 a1 a2 a3 a4 a5 a6 a7 a8 a9 c0 c1 c2 c3 2 _).mono ?_
    rw [hB, H2.out]
    rintro e w2 ⟨rfl, hb2⟩
    obtain ⟨k2, -⟩ := bcell hb2
    have hz2 := hb2.size
    replace hb2 : Below w.heap.size w w2 := hb1.trans (hb2.mono (by omega))
    have l2a : w.heap.size < w2.heap.size := by omega
    have l2b : w.heap.size + 1 < w2.heap.size := by omega
    cases s2
    · by_cases hd : (a0 == 2) = true
      · go_wp2_with fail
        refine (refmay_any a0 a1 a2 a3 a4 a5 a6 a7 a8 a9 c0 c1 c2 c3 1 _).mono ?_
        rw [hB, H1.out]
        rintro e w3 ⟨rfl, hb3⟩
        obtain ⟨k3, -⟩ := bcell hb3
        have hz3 := hb3.size
        replace hb3 : Below w.heap.size w w3 := hb2.trans (hb3.mono (by omega))
        have l3a : w.heap.size < w3.heap.size := by omega
        have l3b : w.heap.size + 1 < w3.heap.size := by omega
        cases s1
        · go_wp2_with fail
          refine (refmay_any a0 a1 a2 a3 a4 a5 a6 a7 a8 a9 c0 c1 c2 c3 2 _).mono ?_
          rw [hB, H2.out]
          rintro e w4 ⟨rfl, hb4⟩
          obtain ⟨k4, -⟩ := bcell hb4
          have hz4 := hb4.size
          replace hb4 : Below w.heap.size w w4 := hb3.trans (hb4.mono (by omega))
          have l4a : w.heap.size < w4.heap.size := by omega
          have l4b : w.heap.size + 1 < w4.heap.size := by omega
          go_wp2_with fail
          go_ret
          exact ⟨ret_int (by rw [HF.out]; simp [beq_iff_eq.1 hd]), hb4⟩
        · go_wp2_with fail
          refine (refmay_any a0 a1 a2 a3 a4 a5 a6 a7 a8 a9 c0 c1 c2 c3 2 _).mono ?_
          rw [hB, H2.out]
          rintro e w4 ⟨rfl, hb4⟩
          obtain ⟨k4, -⟩ := bcell hb4
          have hz4 := hb4.size
          replace hb4 : Below w.heap.size w w4 := hb3.trans (hb4.mono (by omega))
          have l4a : w.heap.size < w4.heap.size := by omega
          have l4b : w.heap.size + 1 < w4.heap.size := by omega
          go_wp2_with fail
          go_ret
          exact ⟨ret_int (by rw [HF.out]; simp [beq_iff_eq.1 hd]), hb4⟩
      · have hd : (a0 == 2) = false := by simpa using hd
        go_wp2_with fail
        refine (refmay_any a0 a1 a2 a3 a4 a5 a6 a7 a8 a9 c0 c1 c2 c3 1 _).mono ?_
        rw [hB, H1.out]
        rintro e w3 ⟨rfl, hb3⟩
        obtain ⟨k3, -⟩ := bcell hb3
        have hz3 := hb3.size
        replace hb3 : Below w.heap.size w w3 := hb2.trans (hb3.mono (by omega))
        have l3a : w.heap.size < w3.heap.size := by omega
        have l3b : w.heap.size + 1 < w3.heap.size := by omega
        cases s1
        · go_wp2_with fail
          go_ret
          exact ⟨ret_int (by rw [HF.out]; simp [beq_eq_false_iff_ne.1 hd]), hb3⟩
        · go_wp2_with fail
          go_ret
          exact ⟨ret_int (by rw [HF.out]; simp [beq_eq_false_iff_ne.1 hd]), hb3⟩
    · by_cases hd : (a0 == 2) = true
      · go_wp2_with fail
        refine (refmay_any a0 a1 a2 a3 a4 a5 a6 a7 a8 a9 c0 c1 c2 c3 1 _).mono ?_
        rw [hB, H1.out]
        rintro e w3 ⟨rfl, hb3⟩
        obtain ⟨k3, -⟩ := bcell hb3
        have hz3 := hb3.size
        replace hb3 : Below w.heap.size w w3 := hb2.trans (hb3.mono (by omega))
        have l3a : w.heap.size < w3.heap.size := by omega
        have l3b : w.heap.size + 1 < w3.heap.size := by omega
        cases s1
        · go_wp2_with fail
          refine (refmay_any a0 a1 a2 a3 a4 a5 a6 a7 a8 a9 c0 c1 c2 c3 2 _).mono ?_
          rw [hB, H2.out]
          rintro e w4 ⟨rfl, hb4⟩
          obtain ⟨k4, -⟩ := bcell hb4
          have hz4 := hb4.size
          replace hb4 : Below w.heap.size w w4 := hb3.trans (hb4.mono (by omega))
          have l4a : w.heap.size < w4.heap.size := by omega
          have l4b : w.heap.size + 1 < w4.heap.size := by omega
          go_wp2_with fail
          go_ret
          exact ⟨ret_int (by rw [HF.out]; simp [beq_iff_eq.1 hd]), hb4⟩
        · go_wp2_with fail
          refine (refmay_any a0 a1 a2 a3 a4 a5 a6 a7 a8 a9 c0 c1 c2 c3 2 _).mono ?_
          rw [hB, H2.out]
          rintro e w4 ⟨rfl, hb4⟩
          obtain ⟨k4, -⟩ := bcell hb4
          have hz4 := hb4.size
          replace hb4 : Below w.heap.size w w4 := hb3.trans (hb4.mono (by omega))
          have l4a : w.heap.size < w4.heap.size := by omega
          have l4b : w.heap.size + 1 < w4.heap.size := by omega
          go_wp2_with fail
          go_ret
          exact ⟨ret_int (by rw [HF.out]; simp [beq_iff_eq.1 hd]), hb4⟩
      · have hd : (a0 == 2) = false := by simpa using hd
        go_wp2_with fail
        refine (refmay_any a0 a1 a2 a3 a4 a5 a6 a7 a8 a9 c0 c1 c2 c3 1 _).mono ?_
        rw [hB, H1.out]
        rintro e w3 ⟨rfl, hb3⟩
        obtain ⟨k3, -⟩ := bcell hb3
        have hz3 := hb3.size
        replace hb3 : Below w.heap.size w w3 := hb2.trans (hb3.mono (by omega))
        have l3a : w.heap.size < w3.heap.size := by omega
        have l3b : w.heap.size + 1 < w3.heap.size := by omega
        cases s1
        · go_wp2_with fail
          go_ret
          exact ⟨ret_int (by rw [HF.out]; simp [beq_eq_false_iff_ne.1 hd]), hb3⟩
        · go_wp2_with fail
          go_ret
          exact ⟨ret_int (by rw [HF.out]; simp [beq_eq_false_iff_ne.1 hd]), hb3⟩
end Go.Proofs.Ytkffddaogogigaa
