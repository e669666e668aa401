/- SlotsWait: the walk. -/
import Derived.Test.YteecedlgjmkkkaaNil
import Derived.Test.YteecedlgjmkkkaaOpen
import Derived.OpenShut
namespace Go.Proofs.Yteecedlgjmkkkaa
open Go Go.RowKit

def oneRow (x : Int) : List Value := [.int .i64 x]
theorem ints_of_rows (R : List (List Value)) (h : ∀ (i : Nat) (hi : i < R.length), Typed [2] R[i]) : ∃ L : List Int, R = L.map oneRow ∧ True := by
  induction R with
  | nil => exact ⟨[], rfl, trivial⟩
  | cons r R ih =>
    obtain ⟨L, rfl, hL⟩ := ih fun i hi => h (i + 1) (by simpa using hi)
    have h0 := h 0 (by simp)
    simp only [List.getElem_cons_zero] at h0
    match r, h0 with
    | [v0], ⟨h0, _⟩ =>
      cases v0 <;> simp [leafOk] at h0
      obtain ⟨rfl, _⟩ := h0
      exact ⟨_ :: L, rfl, trivial⟩
def IntsAt (w : World) (A : Option Addr) (L : List Int) : Prop := RowsAt w A 1 (L.map oneRow)
theorem IntsAt.at_ {w : World} {A : Option Addr} {L : List Int} (h : IntsAt w A L) {k : Nat} (hk : k < L.length) :
    ∃ b off, A = some ⟨b, off, none⟩ ∧ b < w.heap.size ∧ w.cell? ⟨b, off + k, none⟩ = some (.int .i64 L[k]) := by
  obtain ⟨b, off, rfl, hlt, hc⟩ := h (by simpa using by omega)
  have hc := hc k (by simpa using hk)
  simp only [List.getElem_map] at hc
  exact ⟨b, off, rfl, hlt, by simpa using hc 0 _ rfl⟩

theorem ge_of {w w' : World} {g r : Nat} {l : List Nat} {W : World} (hb : Below W.heap.size W w) (hg : W.heap.size ≤ g) (hr : W.heap.size ≤ r) (ho : Only g r w w') : Below W.heap.size W w' := hb.trans (ho.below hg hr)

/-- k are taken -/
def tk (N k : Nat) : List Nat := List.replicate k 1 ++ List.replicate (N - k) 0
theorem tk_zero (N : Nat) : tk N 0 = List.replicate N 0 := by simp [tk]
theorem tk_all (N : Nat) : tk N N = List.replicate N 1 := by simp [tk]
theorem tk_at {N k : Nat} (h : k < N) : (tk N k)[k]? = some 0 := by
  unfold tk
  rw [List.getElem?_append_right (by simp), List.length_replicate, Nat.sub_self]
  simp [List.getElem?_replicate, show 0 < N - k by omega]
theorem tk_lt {N k j : Nat} (h : j < k) : (tk N k)[j]? ≠ some 0 := by
  unfold tk
  rw [List.getElem?_append_left (by simpa using h)]
  simp [h]
theorem tk_set {N k : Nat} (h : k < N) : (tk N k).set k 1 = tk N (k + 1) := by
  unfold tk
  obtain ⟨m, hm⟩ : ∃ m, N - k = m + 1 := ⟨N - k - 1, by omega⟩
  rw [hm, show N - (k + 1) = m by omega, List.set_append, if_neg (by simp), List.length_replicate, Nat.sub_self, List.replicate_succ, List.set_cons_zero, List.replicate_succ' (n := k)]
  simp
/-- used or waiting, each -/
def Busy (l : List Nat) : Prop := ∀ x ∈ l, x = 1 ∨ x = 2
theorem Busy.set {l : List Nat} (h : Busy l) (k : Nat) : Busy (l.set k 2) := by
  intro x hx
  rcases List.mem_or_eq_of_mem_set hx with h1 | rfl
  · exact h x h1
  · exact .inr rfl
theorem Busy.none {l : List Nat} (h : Busy l) : ∀ j : Nat, l[j]? ≠ some 0 := by
  intro j hj
  have := h 0 (List.mem_of_getElem? hj)
  omega
theorem Busy.fx {l : List Nat} (h : Busy l) : (l.map fx).count 0 = l.count 2 := by
  induction l with
  | nil => rfl
  | cons x l ih =>
    have h1 := ih fun y hy => h y (by simp [hy])
    rcases h x (by simp) with rfl | rfl
    · simp [Go.Proofs.Yteecedlgjmkkkaa.fx, h1]
    · simp [Go.Proofs.Yteecedlgjmkkkaa.fx, h1]
theorem count_two {l : List Nat} {k : Nat} (h : l[k]? = some 1) : (l.set k 2).count 2 = l.count 2 + 1 := by
  obtain ⟨hk, h⟩ := List.getElem?_eq_some_iff.1 h
  rw [set_count l k 1 2 2 hk h]; simp
theorem count_zero {l : List Nat} {k : Nat} (h : l[k]? = some 0) : (l.set k 1).count 0 = l.count 0 - 1 := by
  obtain ⟨hk, h⟩ := List.getElem?_eq_some_iff.1 h
  rw [set_count l k 0 1 0 hk h]; simp
theorem none_count {l : List Nat} (h : ∀ j : Nat, l[j]? ≠ some 0) : l.count 0 = 0 := by
  rw [List.count_eq_zero]
  intro hm
  obtain ⟨j, hj, he⟩ := List.getElem_of_mem hm
  exact h j (by rw [List.getElem?_eq_getElem hj, he])
theorem count_none {l : List Nat} (h : l.count 0 = 0) : ∀ j : Nat, l[j]? ≠ some 0 := by
  intro j hj
  exact (List.count_eq_zero.1 h) (List.mem_of_getElem? hj)

theorem wait_big (n : Int) (h0 : 0 ≤ n) (h255 : n ≤ 255) (A : Option Addr) (m cap : Nat) (w : World) (h : (60 : Int) < m) :
    Calls Try.prog 3 #[.int .u8 n, .slice A m cap] w fun e w' => e = .returned (.bool true) ∧ Below w.heap.size w w' := by
  have HK := Lib.hid (fun w' => known_any w')
  have e1 : n.tmod 20 = n % 20 := Int.tmod_eq_emod_of_nonneg h0
  obtain ⟨N, hN⟩ : ∃ N : Nat, n % 20 = N := ⟨(n % 20).toNat, by omega⟩
  have hlt : N < 20 := by omega
  have hnew : Calls Try.prog 6 #[.int .i64 (N + 1)] w (NewV (N + 1) w) := new_any (N + 1) w (by omega) (by omega)
  have HN := Lib.hid hnew
  clear hnew
  go_enter Try.func3, Try.ntmps3
  go_wp2_with fail
  refine HN.out.mono ?_
  rintro e w1 ⟨g, r, rfl, hg, hr, hb, hat⟩
  have HB1 := Lib.hid hb
  clear hb hg hr hat
  go_wp2_with fail
  refine (HK.out _).mono ?_
  rintro e w' ⟨rfl, hb⟩
  go_wp2_with fail
  go_ret
  exact ⟨rfl, HB1.out.trans (hb.mono HB1.out.size)⟩

structure Inv (W : World) (g r : Nat) (l : List Nat) (w : World) : Prop where
  bl : Below W.heap.size W w
  at_ : At w g r l
  g0 : W.heap.size ≤ g
  r0 : W.heap.size ≤ r
theorem Inv.go {W w w' : World} {g r : Nat} {l l' : List Nat} (h : Inv W g r l w) (ho : Only g r w w') (ha : At w' g r l') : Inv W g r l' w' := ⟨h.bl.trans (ho.below h.g0 h.r0), ha, h.g0, h.r0⟩

set_option maxRecDepth 100000 in
set_option maxHeartbeats 4000000 in
theorem wait_main (n : Int) (h0 : 0 ≤ n) (h255 : n ≤ 255) (A : Option Addr) (L : List Int) (cap : Nat) (w : World) (hs : IntsAt w A L) (h : ¬ (60 : Int) < L.length) :
    Calls Try.prog 3 #[.int .u8 n, .slice A L.length cap] w fun e w' => e = .returned (.bool true) ∧ Below w.heap.size w w' := by
  have HK := Lib.hid (fun w' => known_any w')
  have e1 : n.tmod 20 = n % 20 := Int.tmod_eq_emod_of_nonneg h0
  obtain ⟨N, hN⟩ : ∃ N : Nat, n % 20 = N := ⟨(n % 20).toNat, by omega⟩
  have hlt : N < 20 := by omega
  have hnew : Calls Try.prog 6 #[.int .i64 (N + 1)] w (NewV (N + 1) w) := new_any (N + 1) w (by omega) (by omega)
  have HN := Lib.hid hnew
  clear hnew
  have HS := Lib.hid hs
  clear hs
  go_enter Try.func3, Try.ntmps3
  go_wp2_with fail
  refine HN.out.mono ?_
  rintro e w1 ⟨g, r, rfl, hg, hr, hb, hat⟩
  have hinv : Inv w g r (tk (N + 1) 0) w1 := ⟨hb, by rw [tk_zero]; exact hat, hg, hr⟩
  have HI := Lib.hid hinv
  clear hb hg hr hat hinv
  go_wp2_with fail
  go_loopw [8] (fun i wr => ∃ k : Nat, k ≤ N + 1 ∧ i = .int .i64 k ∧ Inv w g r (tk (N + 1) k) wr) (fun i _ => N + 1 - (intOf i).toNat)
  case atStart => exact ⟨0, by omega, rfl, HI.out⟩
  case round =>
    clear HI
    obtain ⟨k, hk, rfl, hinv⟩ := hrel
    have HI := Lib.hid hinv
    clear hinv
    by_cases hlt : k < N + 1
    · have hlt' : (k : Int) < (N : Int) + 1 := by omega
      have HT := Lib.hid (take_fst (k := k) HI.out.at_ (tk_at hlt) (fun j hj => tk_lt hj))
      go_wp2_with fail
      refine HT.out.mono ?_
      rintro e w2 ⟨rfl, ho, ha⟩
      have hinv : Inv w g r (tk (N + 1) (k + 1)) w2 := HI.out.go ho (by rw [← tk_set hlt]; exact ha)
      have HJ := Lib.hid hinv
      clear ho ha hinv
      go_wp2_with fail
      go_roundw
      case rel => exact ⟨k + 1, by omega, by go_num, HJ.out⟩
      case measure => simp [intOf]; omega
    · obtain rfl : k = N + 1 := by omega
      have hlt' : ¬ ((N + 1 : Nat) : Int) < (N : Int) + 1 := by omega
      have hbusy : Busy (tk (N + 1) (N + 1)) := by
        rw [tk_all]; intro x hx; exact .inl (List.eq_of_mem_replicate hx)
      have hcnt : (tk (N + 1) (N + 1)).count 2 = 0 := by rw [tk_all]; simp [List.count_replicate]
      have HY := Lib.hid (And.intro hbusy hcnt)
      clear hbusy hcnt
      go_wp2_with fail
      go_loopw [9, 10] (fun q i wr => ∃ (j : Nat) (l : List Nat), j ≤ L.length ∧ i = .int .i64 j ∧ q = .int .i64 (l.count 2 : Nat) ∧ Busy l ∧ Inv w g r l wr) (fun _ i _ => L.length - (intOf i).toNat)
      case atStart => exact ⟨0, _, by omega, rfl, by rw [HY.out.2]; rfl, HY.out.1, HI.out⟩
      case round =>
        clear HI HY
        obtain ⟨j, l, hj, rfl, rfl, hbusy, hinv⟩ := hrel
        have HI := Lib.hid hinv
        have HY := Lib.hid hbusy
        have hcf := count_few l 2
        have hfew := hinv.at_.few
        clear hinv hbusy
        by_cases hlj : j < L.length
        · obtain ⟨b, off, rfl, hbw, c0⟩ := HS.out.at_ hlj
          have d0 := (HI.out.bl.cell (p := ⟨b, off + j, none⟩) hbw).trans c0
          clear c0 hbw
          have HG := Lib.hid (give_any g r L[j] l _ HI.out.at_)
          go_wp2_with fail
          refine HG.out.mono ?_
          rintro e w2 (⟨hp, hx, rfl, ho, ha⟩ | ⟨hx, rfl, rfl⟩)
          · have hinv := HI.out.go ho ha
            have HJ := Lib.hid (And.intro hinv (And.intro (HY.out.set L[j].toNat) (count_two hx)))
            clear ho ha hx hp hinv d0
            go_wp2_with fail
            go_roundw
            case rel => exact ⟨j + 1, _, by omega, by go_num, by rw [HJ.out.2.2]; go_num, HJ.out.2.1, HJ.out.1⟩
            case measure => simp [intOf]; omega
          · clear hx d0
            go_wp2_with fail
            go_roundw
            case rel => exact ⟨j + 1, l, by omega, by go_num, rfl, HY.out, HI.out⟩
            case measure => simp [intOf]; omega
        · have HT := Lib.hid (take_none HI.out.at_ HY.out.none)
          have HE := Lib.hid (settle_any g r l _ HI.out.at_)
          go_wp2_with fail
          refine HT.out.mono ?_
          rintro e w2 ⟨rfl, rfl⟩
          go_wp2_with fail
          refine HE.out.mono ?_
          rintro e w3 ⟨rfl, ho, ha⟩
          have hinv := HI.out.go ho ha
          have HJ := Lib.hid (And.intro hinv HY.out.fx)
          clear ho ha hinv
          go_wp2_with fail
          go_loopw [13] (fun i wr => ∃ (j : Nat) (m : List Nat), j ≤ l.count 2 ∧ i = .int .i64 j ∧ m.count 0 = l.count 2 - j ∧ Inv w g r m wr) (fun i _ => l.count 2 - (intOf i).toNat)
          case atStart => exact ⟨0, _, by omega, rfl, HJ.out.2, HJ.out.1⟩
          case round =>
            clear HJ HI HY
            obtain ⟨j, m, hj, rfl, hcm, hinv⟩ := hrel
            have HI := Lib.hid hinv
            clear hinv
            by_cases hlj : j < l.count 2
            · have HT := Lib.hid (take_any g r m _ HI.out.at_)
              have HCM := Lib.hid hcm
              clear hcm
              have hlj' : (j : Int) < ((l.count 2 : Nat) : Int) := by omega
              go_wp2_with fail
              refine HT.out.mono ?_
              rintro e w2 (⟨q, hq, hno, rfl, ho, ha⟩ | ⟨hno, _, _⟩)
              · have hinv := HI.out.go ho ha
                have HJ := Lib.hid (And.intro hinv (count_zero hq))
                clear ho ha hq hno hinv
                go_wp2_with fail
                go_roundw
                case rel => exact ⟨j + 1, _, by omega, by go_num, by rw [HJ.out.2, HCM.out]; omega, HJ.out.1⟩
                case measure => simp [intOf]; omega
              · have := none_count hno
                have := HCM.out
                omega
            · have HT := Lib.hid (take_none HI.out.at_ (count_none (by omega)))
              have hlj' : ¬ (j : Int) < ((l.count 2 : Nat) : Int) := by omega
              clear hcm
              go_wp2_with fail
              refine HT.out.mono ?_
              rintro e w2 ⟨rfl, rfl⟩
              go_wp2_with fail
              refine (HK.out _).mono ?_
              rintro e w' ⟨rfl, hb⟩
              go_wp2_with fail
              go_ret
              exact ⟨rfl, HI.out.bl.trans (hb.mono HI.out.bl.size)⟩
theorem wait_walk (n : Int) (hn : (Lit.int .u8 n).wf = true) (A : Option Addr) (L : List Int) (cap : Nat) (_hlen : L.length ≤ maxLen) (_ : True) (w : World) (hs : IntsAt w A L) :
    Calls Try.prog 3 #[.int .u8 n, .slice A L.length cap] w fun e w' => e = .returned (.bool true) ∧ Below w.heap.size w w' := by
  obtain ⟨h0, h255⟩ := bounds_u8 hn
  by_cases h : (60 : Int) < L.length
  · exact wait_big n h0 h255 A _ cap w h
  · exact wait_main n h0 h255 A L cap w hs h
end Go.Proofs.Yteecedlgjmkkkaa
