/- SumMore: the walk. -/
import Derived.Test.YthacpfijoadclaaOf
import Derived.Test.YthacpfijoadclaaOpen
namespace Go.Proofs.Ythacpfijoadclaa
open Go Go.RowKit

def oneStr (x : ByteArray) : List Value := [.string x]
theorem strs_of_rows (R : List (List Value)) (h : ∀ (i : Nat) (hi : i < R.length), Typed [1] R[i]) : ∃ L : List ByteArray, R = L.map oneStr ∧ ∀ x ∈ L, x.size ≤ maxLen := by
  induction R with
  | nil => exact ⟨[], rfl, by simp⟩
  | cons r R ih =>
    obtain ⟨L, rfl, hL⟩ := ih fun i hi => h (i + 1) (by simpa using hi)
    have h0 := h 0 (by simp)
    simp only [List.getElem_cons_zero] at h0
    match r, h0 with
    | [v0], ⟨h0, _⟩ =>
      cases v0 <;> simp [leafOk] at h0
      exact ⟨_ :: L, rfl, by simpa using ⟨h0, hL⟩⟩
def StrsAt (w : World) (A : Option Addr) (L : List ByteArray) : Prop := RowsAt w A 1 (L.map oneStr)
theorem StrsAt.at_ {w : World} {A : Option Addr} {L : List ByteArray} (h : StrsAt w A L) {k : Nat} (hk : k < L.length) :
    ∃ b off, A = some ⟨b, off, none⟩ ∧ b < w.heap.size ∧ w.cell? ⟨b, off + k, none⟩ = some (.string L[k]) := by
  obtain ⟨b, off, rfl, hlt, hc⟩ := h (by simpa using by omega)
  have hc := hc k (by simpa using hk)
  simp only [List.getElem_map] at hc
  exact ⟨b, off, rfl, hlt, by simpa using hc 0 _ rfl⟩

theorem sumS_more (a b : ByteArray) : runS (sumS a ^^^ allOne) b.data.toList ^^^ allOne = sumS (a ++ b) := by
  unfold sumS
  rw [BitVec.xor_assoc, BitVec.xor_self, BitVec.xor_zero, ByteArray.data_append, Array.toList_append, runS_append]
theorem more_big (A : Option Addr) (m cap : Nat) (w : World) (h : (30 : Int) < m) :
    Calls Try.prog 6 #[.slice A m cap] w fun e w' => e = .returned (.bool true) ∧ Below w.heap.size w w' := by
  have HK := Lib.hid (known_any w)
  go_enter Try.func6, Try.ntmps6
  go_wp2_with fail
  refine HK.out.mono ?_
  rintro e w' ⟨rfl, hb⟩
  go_wp2_with fail
  go_ret
  exact ⟨rfl, hb⟩

set_option maxRecDepth 100000 in
set_option maxHeartbeats 4000000 in
theorem more_main (A : Option Addr) (L : List ByteArray) (cap : Nat) (w : World) (hs : StrsAt w A L) (hok : ∀ x ∈ L, x.size ≤ maxLen) (hm : ¬ (30 : Int) < L.length) :
    Calls Try.prog 6 #[.slice A L.length cap] w fun e w' => e = .returned (.bool true) ∧ Below w.heap.size w w' := by
  have HK := Lib.hid (fun w' => known_any w')
  have HS := Lib.hid hs
  clear hs hok
  go_enter Try.func6, Try.ntmps6
  go_wp2_with fail
  refine (new_any w).mono ?_
  rintro e w1 ⟨rfl, hb, hs⟩
  have H1 := Lib.hid (And.intro hb hs)
  clear hb hs
  go_wp2_with fail
  go_loopw [4, 5, 6] (fun a n i wr => ∃ (k : Nat) (s : ByteArray), k ≤ L.length ∧ i = .int .i64 k ∧ a = .string s ∧ n = .int .u32 (nv (sumS s)) ∧ s.size ≤ k * 200 ∧ Below w.heap.size w wr ∧ Sum wr w.heap.size k) (fun _ _ i _ => L.length - (intOf i).toNat)
  case atStart => exact ⟨0, ⟨#[]⟩, by omega, rfl, rfl, by rw [sum_empty]; rfl, Nat.le_refl _, H1.out.1, .inl H1.out.2⟩
  case round =>
    obtain ⟨k, s, hk, rfl, rfl, rfl, hsz, hb, hs⟩ := hrel
    have HX := Lib.hid (And.intro hb hs)
    clear hb hs
    by_cases hlt : k < L.length
    · obtain ⟨b, off, rfl, hbw, c0⟩ := HS.out.at_ hlt
      have d0 := (HX.out.1.cell (p := ⟨b, off + k, none⟩) hbw).trans c0
      have H0 := Lib.hid (And.intro hbw c0)
      clear c0 hbw
      by_cases h200 : (200 : Int) < (L[k].size : Int)
      · go_wp2_with fail
        refine (HK.out _).mono ?_
        rintro e w' ⟨rfl, hb⟩
        go_wp2_with fail
        go_ret
        exact ⟨rfl, HX.out.1.trans (hb.mono HX.out.1.size)⟩
      · obtain ⟨t, ht⟩ : ∃ t, t = s ++ L[k] := ⟨_, rfl⟩
        have hts : t.size = s.size + L[k].size := by rw [ht, ByteArray.size_append]
        have hadd : ∀ w', (Op.stringOp .add s L[k]).run Try.prog w' = .ok (.string t) w' := fun w' => by rw [ht]; exact run_string_add_sum w' s L[k] (by omega)
        have hM : Calls Try.prog 13 #[.pointer (some ⟨w.heap.size, 0, none⟩), .int .u32 (nv (sumS s)), .string L[k]] wr fun e w' => e = .returned (.int .u32 (nv (sumS t))) ∧ Only w.heap.size wr w' ∧ Sum w' w.heap.size (k + 1) := by
          have := more_any w.heap.size k (sumS s) L[k] (by unfold maxLen; omega) wr HX.out.2 (by omega) (by omega)
          rw [sumS_more, ← ht] at this
          exact this
        have HM := Lib.hid hM
        have HR := Lib.hid (fun w' => ref_any t (by unfold maxLen; omega) w')
        have HTS := Lib.hid hts
        clear ht hM hts
        go_wp2_with fail
        refine HM.out.mono ?_
        rintro e w2 ⟨rfl, ho, hs⟩
        have HY := Lib.hid (And.intro (HX.out.1.trans (ho.below (Nat.le_refl _))) hs)
        clear ho hs d0
        go_wp2_with fail
        refine (HR.out _).mono ?_
        rintro e w' ⟨rfl, rfl⟩
        go_wp2_with fail
        refine (calls_any w.heap.size _ w2 HY.out.2 (by omega) (by omega)).mono ?_
        rintro e w' ⟨rfl, rfl⟩
        go_wp2_with fail
        go_roundw
        case rel => exact ⟨k + 1, t, by omega, by go_num, rfl, rfl, by rw [HTS.out]; omega, HY.out.1, by have := HY.out.2; exact_mod_cast this⟩
        case measure => simp [intOf]; omega
    · obtain rfl : k = L.length := by omega
      have HO := Lib.hid (of_any w.heap.size _ s (by unfold maxLen; omega) wr HX.out.2 (by omega) (by omega))
      go_wp2_with fail
      refine HO.out.mono ?_
      rintro e w2 ⟨rfl, ho, hs⟩
      have HY := Lib.hid (And.intro (HX.out.1.trans (ho.below (Nat.le_refl _))) hs)
      clear ho hs
      go_wp2_with fail
      refine (calls_any w.heap.size _ w2 HY.out.2 (by omega) (by omega)).mono ?_
      rintro e w' ⟨rfl, rfl⟩
      go_wp2_with fail
      refine (HK.out _).mono ?_
      rintro e w' ⟨rfl, hb⟩
      go_wp2_with fail
      go_ret
      exact ⟨rfl, HY.out.1.trans (hb.mono HY.out.1.size)⟩
theorem more_walk (A : Option Addr) (L : List ByteArray) (cap : Nat) (_hlen : L.length ≤ maxLen) (hok : ∀ x ∈ L, x.size ≤ maxLen) (w : World) (hs : StrsAt w A L) :
    Calls Try.prog 6 #[.slice A L.length cap] w fun e w' => e = .returned (.bool true) ∧ Below w.heap.size w w' := by
  by_cases h : (30 : Int) < L.length
  · exact more_big A _ cap w h
  · exact more_main A L cap w hs hok h
end Go.Proofs.Ythacpfijoadclaa
