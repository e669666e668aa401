/- The law's same, and the reference's Large. -/
import Derived.Test.YtcocdhlpmgfphaaRefVic
import Derived.Test.YtcocdhlpmgfphaaFlow
namespace Go.Proofs.Ytcocdhlpmgfphaa
open Go Go.RowKit
open S

/-- a step as it lies in memory -/
structure Stp where
  kind : Int
  s : ByteArray
def Stp.row (x : Stp) : List Value := [.int .i64 x.kind, .string x.s]
theorem stp_of_typed {vs : List Value} (h : Typed [2, 1] vs) : ∃ x : Stp, vs = x.row ∧ kok x.s := by
  match vs, h with
  | [v0, v1], ⟨h0, h1, _⟩ =>
    cases v0 <;> simp [leafOk] at h0
    cases v1 <;> simp [leafOk] at h1
    obtain ⟨rfl, _⟩ := h0
    exact ⟨⟨_, _⟩, rfl, h1⟩
theorem steps_of_rows (R : List (List Value)) (h : ∀ (i : Nat) (hi : i < R.length), Typed [2, 1] R[i]) : ∃ L : List Stp, R = L.map Stp.row ∧ ∀ x ∈ L, kok x.s := by
  induction R with
  | nil => exact ⟨[], rfl, by simp⟩
  | cons r R ih =>
    obtain ⟨L, rfl, hL⟩ := ih fun i hi => h (i + 1) (by simpa using hi)
    obtain ⟨x, hx, hb⟩ := stp_of_typed (h 0 (by simp))
    exact ⟨x :: L, by simp [← hx], by simpa using ⟨hb, hL⟩⟩
def StepsAt (w : World) (A : Option Addr) (L : List Stp) : Prop := RowsAt w A 2 (L.map Stp.row)
theorem StepsAt.at_ {w : World} {A : Option Addr} {L : List Stp} (h : StepsAt w A L) {k : Nat} (hk : k < L.length) :
    ∃ b off, A = some ⟨b, off, none⟩ ∧ b < w.heap.size ∧ w.cell? ⟨b, off + k * 2, none⟩ = some (.int .i64 L[k].kind) ∧ w.cell? ⟨b, off + k * 2 + 1, none⟩ = some (.string L[k].s) := by
  obtain ⟨b, off, rfl, hlt, hc⟩ := h (by simpa using by omega)
  have hc := hc k (by simpa using hk)
  simp only [List.getElem_map] at hc
  exact ⟨b, off, rfl, hlt, hc 0 _ rfl, hc 1 _ rfl⟩

def LargeV (n : Nat) (w : World) (e : Ending) (w' : World) : Prop := ∃ b : Bool, e = .returned (.bool b) ∧ w = w' ∧ (b = false → n ≤ 80)
set_option maxHeartbeats 800000 in
theorem large_any (A : Option Addr) (L : List Stp) (cap : Nat) (w : World) (hlen : L.length ≤ maxLen) (hs : StepsAt w A L) : Calls Try.prog 20 #[.slice A L.length cap] w (LargeV L.length w) := by
  unfold maxLen at hlen
  have HS := Lib.hid hs
  clear hs
  go_enter Try.func20, Try.ntmps20
  go_wp2
  go_loop [3] (fun i => ∃ k : Nat, k ≤ L.length ∧ k ≤ 80 ∧ i = .int .i64 k) (fun i => L.length - (intOf i).toNat)
  case atStart => exact ⟨0, by omega, by omega, rfl⟩
  case round =>
    obtain ⟨k, hk, hk80, rfl⟩ := hrel
    by_cases hlt : k < L.length
    · by_cases h80 : k < 80
      · obtain ⟨b, off, rfl, _, c0, c1⟩ := HS.out.at_ hlt
        by_cases h100 : (100 : Int) < (L[k].s.size : Int)
        · go_wp2_with fail
          go_ret
          exact ⟨true, rfl, rfl, by simp⟩
        · go_wp2_with fail
          go_round
          case rel => exact ⟨k + 1, by omega, by omega, by go_num⟩
          case measure => simp [intOf]; omega
      · obtain rfl : k = 80 := by omega
        have hgt : (80 : Int) < (L.length : Int) := by omega
        go_wp2_with fail
        go_ret
        exact ⟨true, rfl, rfl, by simp⟩
    · obtain rfl : k = L.length := by omega
      have hgt : ¬ (80 : Int) < (L.length : Int) := by omega
      go_wp2_with fail
      go_ret
      exact ⟨false, rfl, rfl, fun _ => by omega⟩

/-! ### same -/
set_option maxRecDepth 100000 in
set_option maxHeartbeats 4000000 in
theorem same_any {W w : World} {B g mb c : Nat} {L : St} (A : Option Addr) (cap : Nat) (h : Ck W g mb c L w) (hr : Rf w B (.slice A L.length cap) L) :
    Calls Try.prog 26 #[.pointer (some ⟨g, 0, none⟩), .slice A L.length cap] w fun e w' => e = .returned (.bool true) ∧ Below w.heap.size w w' := by
  have hfew := h.few
  have hkl : (keysOf L).length = L.length := by simp [keysOf]
  have HK := Lib.hid (keys_ck h)
  have HC := Lib.hid (And.intro h hr)
  have HKL := Lib.hid hkl
  rw [hkl] at hfew
  clear h hr
  go_enter Try.func26, Try.ntmps26
  go_wp2_with fail
  refine Calls.mono HK.out ?_
  rintro e w1 ⟨vk, rfl, hsl, hb1⟩
  obtain ⟨Ak, capk, rfl, _, _⟩ := hsl.any
  have H1 := Lib.hid (And.intro (HC.out.1.below hb1) (And.intro ((show Sl w B 68 2 (.slice A L.length cap) L.length (cells2 L) from HC.out.2).below hb1) (And.intro hsl hb1)))
  have HL := Lib.hid (len_ck H1.out.1)
  clear hsl hb1
  go_wp2_with fail
  refine HL.out.mono ?_
  rintro e w' ⟨rfl, rfl⟩
  go_wp2_with fail
  clear hkl
  go_loopw [6] (fun i wr => ∃ k : Nat, k ≤ L.length ∧ i = .int .i64 k ∧ Below w1.heap.size w1 wr) (fun i _ => L.length - (intOf i).toNat)
  case atStart => exact ⟨0, by omega, rfl, Below.refl _ _⟩
  case round =>
    obtain ⟨k, hk, rfl, hb⟩ := hrel
    have HB := Lib.hid hb
    clear hb
    by_cases hlt : k < L.length
    · have hsl1 := H1.out.2.2.1
      rw [HKL.out] at hsl1
      obtain ⟨bk, offk, capk', he, _, _⟩ := hsl1.shape (by omega)
      cases he
      obtain ⟨b, off, cap', he, _, _⟩ := H1.out.2.1.shape (by omega)
      cases he
      have hkey : (encs (keysOf L))[k]? = some (.string L[k].1) := by simp [encs, keysOf, hlt]
      have d0 : wr.cell? ⟨bk, offk + k, none⟩ = some (.string L[k].1) := (hsl1.below HB.out).cell hkey
      have d1 : wr.cell? ⟨b, off + k * 2, none⟩ = some (.string L[k].1) := (H1.out.2.1.below HB.out).cell (cells2_at hlt).1
      have d2 : wr.cell? ⟨b, off + k * 2 + 1, none⟩ = some (.bool L[k].2) := by rw [Nat.add_assoc]; exact (H1.out.2.1.below HB.out).cell (cells2_at hlt).2
      have e0 : bk < wr.heap.size := Nat.lt_of_lt_of_le (hsl1.lt bk rfl) HB.out.size
      have e1 : b < wr.heap.size := Nat.lt_of_lt_of_le (H1.out.2.1.lt b rfl) HB.out.size
      have hck := H1.out.1.below HB.out
      have hmem : (L[k].1, L[k].2) ∈ L := List.getElem_mem hlt
      have hin : L[k].1 ∈ keysOf L := mem_keys.2 ⟨_, hmem⟩
      have hmk : L[k].2 = true ↔ (L[k].1, true) ∈ L := by
        constructor
        · intro h2; rw [← h2]; exact hmem
        · intro h2
          cases hb2 : L[k].2
          · rw [hb2] at hmem
            exact absurd (both_marks hck.nodup h2 hmem) id
          · rfl
      have HH : Hid (∀ w', Ck W g mb c L w' → Calls Try.prog 11 #[.pointer (some ⟨g, 0, none⟩), .string L[k].1] w' fun e w'' => e = .returned (.bool true) ∧ Below w'.heap.size w' w'') := fun w' hw' =>
        (has_ck hw' L[k].1 true (by simp [hin])).mono fun _ _ ⟨h1, h2⟩ => ⟨h1, h2 ▸ Below.refl _ _⟩
      have HM : Hid (∀ w', Ck W g mb c L w' → Calls Try.prog 13 #[.pointer (some ⟨g, 0, none⟩), .string L[k].1] w' fun e w'' => e = .returned (.bool L[k].2) ∧ Below w'.heap.size w' w'') := fun w' hw' =>
        marked_ck hw' L[k].1 (hw'.ok _ hin) L[k].2 hmk
      have HCK := Lib.hid hck
      clear hsl1 hkey hck hmem hin hmk
      go_wp2_with fail
      refine wp_region_flow_lit (fun w' => Below wr.heap.size wr w') (by kernel_rfl) (by kernel_rfl) (by go_grown) ?_
      repeat (first | (refine flow_pass ?_ ?_; (focus rfl); simp only [Act.put, List.setIfInBounds_toArray, List.set_cons_zero, List.set_cons_succ]) | (refine' flow_take (v := _) _ _ _; rotate_left; (focus rfl); (focus (intro wS hS; obtain ⟨hc, -⟩ := bcell hS; go_simp; try (with_reducible (first | exact ⟨rfl, hS⟩ | rfl)); done)); simp only [Act.put, List.setIfInBounds_toArray, List.set_cons_zero, List.set_cons_succ]))
      (refine' flow_take (v := _) _ _ _; rotate_left; (focus rfl); (focus (intro wS hS; go_simp; refine (HH.out _ (HCK.out.below hS)).mono ?_; rintro e w' ⟨rfl, hb⟩; refine ⟨?_, hS.trans (hb.mono (Nat.le_trans (by simp) hS.size))⟩; rfl)); simp only [Act.put, List.setIfInBounds_toArray, List.set_cons_zero, List.set_cons_succ])
      repeat (first | (refine flow_pass ?_ ?_; (focus rfl); simp only [Act.put, List.setIfInBounds_toArray, List.set_cons_zero, List.set_cons_succ]) | (refine' flow_take (v := _) _ _ _; rotate_left; (focus rfl); (focus (intro wS hS; obtain ⟨hc, -⟩ := bcell hS; go_simp; try (with_reducible (first | exact ⟨rfl, hS⟩ | rfl)); done)); simp only [Act.put, List.setIfInBounds_toArray, List.set_cons_zero, List.set_cons_succ]))
      (refine' flow_take (v := _) _ _ _; rotate_left; (focus rfl); (focus (intro wS hS; go_simp; refine (HM.out _ (HCK.out.below hS)).mono ?_; rintro e w' ⟨rfl, hb⟩; refine ⟨?_, hS.trans (hb.mono (Nat.le_trans (by simp) hS.size))⟩; rfl)); simp only [Act.put, List.setIfInBounds_toArray, List.set_cons_zero, List.set_cons_succ])
      repeat (first | (refine flow_pass ?_ ?_; (focus rfl); simp only [Act.put, List.setIfInBounds_toArray, List.set_cons_zero, List.set_cons_succ]) | (refine' flow_take (v := _) _ _ _; rotate_left; (focus rfl); (focus (intro wS hS; obtain ⟨hc, -⟩ := bcell hS; go_simp; try (with_reducible (first | exact ⟨rfl, hS⟩ | rfl)); done)); simp only [Act.put, List.setIfInBounds_toArray, List.set_cons_zero, List.set_cons_succ]))
      refine flow_nil ?_
      intro w5 hS5
      have H5 := Lib.hid hS5
      clear hS5 d0 d1 d2 e0 e1
      go_wp2_with fail
      go_roundw
      case rel => exact ⟨k + 1, by omega, by go_num, HB.out.trans (H5.out.mono HB.out.size)⟩
      case measure => simp [intOf]; omega
    · go_wp2_with fail
      go_ret
      exact ⟨rfl, H1.out.2.2.2.trans (HB.out.mono H1.out.2.2.2.size)⟩
end Go.Proofs.Ytcocdhlpmgfphaa
