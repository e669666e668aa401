/- ClockAll: the walk. -/
import Derived.Test.YtcocdhlpmgfphaaCkI
import Derived.Test.YtcocdhlpmgfphaaKnown
import Derived.Test.YtcocdhlpmgfphaaOpen
import Derived.Test.YtcocdhlpmgfphaaFlow
namespace Go.Proofs.Ytcocdhlpmgfphaa
open Go Go.RowKit
open I

def oneRow (x : Int) : List Value := [.int .i64 x]
theorem ints_of_rows (R : List (List Value)) (h : ∀ (i : Nat) (hi : i < R.length), Typed [2] R[i]) : ∃ L : List Int, R = L.map oneRow ∧ ∀ x ∈ L, kok x := by
  induction R with
  | nil => exact ⟨[], rfl, by simp⟩
  | cons r R ih =>
    obtain ⟨L, rfl, hL⟩ := ih fun i hi => h (i + 1) (by simpa using hi)
    have h0 := h 0 (by simp)
    simp only [List.getElem_cons_zero] at h0
    match r, h0 with
    | [v0], ⟨h0, _⟩ =>
      cases v0 <;> simp [leafOk] at h0
      obtain ⟨rfl, hw⟩ := h0
      exact ⟨_ :: L, rfl, by simpa [kok] using ⟨hw, hL⟩⟩
def IntsAt (w : World) (A : Option Addr) (L : List Int) : Prop := RowsAt w A 1 (L.map oneRow)
theorem IntsAt.at_ {w : World} {A : Option Addr} {L : List Int} (h : IntsAt w A L) {k : Nat} (hk : k < L.length) :
    ∃ b off, A = some ⟨b, off, none⟩ ∧ b < w.heap.size ∧ w.cell? ⟨b, off + k, none⟩ = some (.int .i64 L[k]) := by
  obtain ⟨b, off, rfl, hlt, hc⟩ := h (by simpa using by omega)
  have hc := hc k (by simpa using hk)
  simp only [List.getElem_map] at hc
  exact ⟨b, off, rfl, hlt, by simpa using hc 0 _ rfl⟩

theorem all_big (A : Option Addr) (m cap : Nat) (w : World) (h : (60 : Int) < m) :
    Calls Try.prog 4 #[.slice A m cap] w fun e w' => e = .returned (.bool true) ∧ Below w.heap.size w w' := by
  have HK := Lib.hid (known_any w)
  go_enter Try.func4, Try.ntmps4
  go_wp2_with fail
  refine HK.out.mono ?_
  rintro e w' ⟨rfl, hb⟩
  go_wp2_with fail
  go_ret
  exact ⟨rfl, hb⟩

/-- the clock, and what was told -/
structure AllI (W : World) (g mb c : Nat) (S0 S : St) (v : Value) (T : List Int) (w : World) : Prop where
  at_ : ∃ vc, At w W.heap.size g mb c vc S ∧ ∀ q, v.ownBlock = some q → q ≠ g ∧ q ≠ mb ∧ vc.ownBlock ≠ some q
  bl : Below W.heap.size W w
  row : Sl w W.heap.size 3 1 v T.length (encs T)
  perm : (T ++ keysOf S).Perm (keysOf S0)
theorem AllI.turn {W w w' : World} {g mb c : Nat} {S S' : St} {v vc vc' : Value} {T : List Int} (hat : At w W.heap.size g mb c vc S) (ho : ∀ q, v.ownBlock = some q → q ≠ g ∧ q ≠ mb ∧ vc.ownBlock ≠ some q)
    (hbl : Below W.heap.size W w) (hrow : Sl w W.heap.size 3 1 v T.length (encs T)) (ht : Turn g mb w w' vc vc') (hat' : At w' W.heap.size g mb c vc' S') :
    (∀ q, v.ownBlock = some q → q ≠ g ∧ q ≠ mb ∧ vc'.ownBlock ≠ some q) ∧ Below W.heap.size W w' ∧ Sl w' W.heap.size 3 1 v T.length (encs T) := by
  refine ⟨fun q hq => ?_, hbl.trans (hat.bl ht hbl.size), hrow.of fun q hq => ?_⟩
  · obtain ⟨h1, h2, h3⟩ := ho q hq
    refine ⟨h1, h2, fun e => ?_⟩
    rcases ht.own q e with h4 | h4
    · exact h3 h4
    · have := hrow.lt q hq; omega
  · obtain ⟨h1, h2, h3⟩ := ho q hq
    exact ht.keep q (hrow.lt q hq) h1 h2 h3
theorem drop_head {k : Int} {b : Bool} {r : St} (h : (keysOf ((k, b) :: r)).Nodup) : drop ((k, b) :: r) k = r := by
  have hk : keysOf ((k, b) :: r) = k :: keysOf r := rfl
  rw [hk, List.nodup_cons] at h
  unfold drop
  rw [List.filter_cons_of_neg (by simp), List.filter_eq_self]
  intro x hx
  simp only [ne_eq, decide_eq_true_eq]
  intro e
  exact h.1 (mem_keys.2 ⟨x.2, by rw [← e]; exact hx⟩)
/-- one more told -/
theorem AllI.more {W w w0 w' : World} {g mb c : Nat} {S0 S : St} {v v' vc : Value} {T : List Int} {k : Int} (hat : At w W.heap.size g mb c vc S) (ho : ∀ q, v.ownBlock = some q → q ≠ g ∧ q ≠ mb ∧ vc.ownBlock ≠ some q)
    (hbl : Below W.heap.size W w) (hv : ∀ q, v.ownBlock = some q → W.heap.size ≤ q) (hp : ((T ++ [k]) ++ keysOf S).Perm (keysOf S0)) (hb0 : Below w.heap.size w w0)
    (hsl : Sl w' W.heap.size 3 1 v' (T.length + 1) (encs T ++ [.int .i64 k])) (hgrow : w0.grownBy w' v.ownBlock) (hown : ∀ q, v'.ownBlock = some q → v.ownBlock = some q ∨ w.heap.size ≤ q) : AllI W g mb c S0 S v' (T ++ [k]) w' := by
  have hg0 : ∀ q, q < w.heap.size → v.ownBlock ≠ some q → w'.heap[q]? = w.heap[q]? := fun q hq hne => (hgrow.block q (Nat.lt_of_lt_of_le hq hb0.size) (fun e => hne e.symm)).trans (hb0.block q hq)
  have hgl := hat.glt
  have hml := hat.mlt
  have hrl := hat.row.lt
  have ng : v.ownBlock ≠ some g := fun e => (ho g e).1 rfl
  have nm : v.ownBlock ≠ some mb := fun e => (ho mb e).2.1 rfl
  obtain ⟨D, n, hm1, hm2, hm3⟩ := hat.map
  refine ⟨⟨vc, ⟨(hg0 g hgl ng).trans hat.obj, hat.row.of fun q hq => hg0 q (hrl q hq) (fun e => (ho q e).2.2 hq), ⟨D, n, ownsMap_of hm1 (hg0 mb hml nm), hm2, hm3⟩, hat.nodup, hat.ok, hat.g0, hat.m0, hat.few, hat.c0⟩, fun q hq => ?_⟩, ?_, ?_, hp⟩
  · rcases hown q hq with h1 | h1
    · exact ho q h1
    · refine ⟨by omega, by omega, fun e => ?_⟩
      have := hrl q e; omega
  · have h1 := hbl.trans (hb0.mono hbl.size)
    exact h1.grown hgrow h1.size hv
  · rw [List.length_append, List.length_singleton, ← encs_append]
    exact hsl
theorem count_one {T : List Int} {x : Int} (hn : T.Nodup) (hx : x ∈ T) : T.count x = 1 := hn.count.trans (if_pos hx)
theorem tcount_yes (x : Int) (k : Nat) (l : List Int) (hk : k < l.length) (h : l[k] = x) : (l.take (k + 1)).count x = (l.take k).count x + 1 := by
  rw [List.take_succ_eq_append_getElem hk, h]; simp
theorem tcount_no (x : Int) (k : Nat) (l : List Int) (hk : k < l.length) (h : ¬ l[k] = x) : (l.take (k + 1)).count x = (l.take k).count x := by
  rw [List.take_succ_eq_append_getElem hk, List.count_append, List.count_singleton]; simp only [beq_iff_eq, if_neg h, Nat.add_zero]
theorem tcount_few (x : Int) (k : Nat) (l : List Int) : (l.take k).count x ≤ k := by
  have := List.count_le_length (a := x) (l := l.take k)
  simp at this
  omega

set_option maxRecDepth 100000 in
set_option maxHeartbeats 8000000 in
theorem all_main (A : Option Addr) (L : List Int) (cap : Nat) (w : World) (hs : IntsAt w A L) (hok : ∀ x ∈ L, kok x) (hm : ¬ (60 : Int) < L.length) :
    Calls Try.prog 4 #[.slice A L.length cap] w fun e w' => e = .returned (.bool true) ∧ Below w.heap.size w w' := by
  obtain ⟨i0, hi, hz0, hz1, hz2⟩ := info_parts info3
  have HK := Lib.hid (fun w' => known_any w')
  have HS := Lib.hid hs
  have HO := Lib.hid hok
  clear hs hok
  go_enter Try.func4, Try.ntmps4
  go_wp2_with fail
  refine (new_ck w).mono ?_
  rintro e w0 ⟨g, mb, rfl, h0⟩
  have H0 := Lib.hid h0
  clear h0
  go_wp2_with fail
  go_loopw [4] (fun i wr => ∃ (k : Nat) (S : St), k ≤ L.length ∧ i = .int .i64 k ∧ Ck w g mb k S wr ∧ ∀ x, x ∈ keysOf S ↔ x ∈ L.take k) (fun i _ => L.length - (intOf i).toNat)
  case atStart => exact ⟨0, [], by omega, rfl, H0.out, by simp [keysOf]⟩
  case round =>
    clear H0
    obtain ⟨k, S, hk, rfl, hck, hiff⟩ := hrel
    have HC := Lib.hid (And.intro hck hiff)
    clear hck hiff
    by_cases hlt : k < L.length
    · obtain ⟨b, off, rfl, hbw, c0⟩ := HS.out.at_ hlt
      have d0 := (HC.out.1.bl.cell (p := ⟨b, off + k, none⟩) hbw).trans c0
      clear c0 hbw
      have HT := Lib.hid (touch_ck HC.out.1 L[k] (HO.out _ (List.getElem_mem hlt)) (by omega))
      go_wp2_with fail
      refine HT.out.mono ?_
      rintro e w2 ⟨rfl, hck⟩
      have HJ := Lib.hid hck
      clear hck d0
      go_wp2_with fail
      go_roundw
      case rel =>
        refine ⟨k + 1, touch S L[k], by omega, by go_num, HJ.out, fun x => ?_⟩
        rw [List.take_succ_eq_append_getElem hlt, List.mem_append, List.mem_singleton, ← HC.out.2 x]
        by_cases hin : L[k] ∈ keysOf S
        · rw [touch_keys_in hin]
          exact ⟨.inl, fun h => h.elim id (fun e => e ▸ hin)⟩
        · rw [touch_keys_out hin, List.mem_append, List.mem_singleton]
      case measure => simp [intOf]; omega
    · obtain rfl : k = L.length := by omega
      have hall : ∀ x, x ∈ keysOf S ↔ x ∈ L := fun x => by rw [HC.out.2 x, List.take_length]
      have HA := Lib.hid hall
      have HL := Lib.hid (len_ck HC.out.1)
      have hfew := HC.out.1.few
      obtain ⟨N, hN⟩ : ∃ N, (keysOf S).length = N := ⟨_, rfl⟩
      rw [hN] at hfew
      have HN := Lib.hid hN
      have hlc : Calls Try.prog 16 #[.pointer (some ⟨g, 0, none⟩)] wr fun e w' => e = .returned (.int .i64 (N : Nat)) ∧ wr = w' := by
        have := HL.out
        rw [hN] at this
        exact this
      clear hall hN HL
      go_wp2_with fail
      refine hlc.mono ?_
      rintro e w' ⟨rfl, rfl⟩
      clear hlc
      go_wp2_with fail
      go_loopw [6, 7] (fun v i wr => ∃ (j : Nat) (S' : St) (T : List Int), j ≤ N ∧ i = .int .i64 j ∧ T.length = j ∧ AllI w g mb L.length S S' v T wr) (fun _ i _ => N - (intOf i).toNat)
      case atStart =>
        obtain ⟨⟨vc, hat⟩, hbl⟩ := HC.out.1
        exact ⟨0, S, [], by omega, rfl, rfl, ⟨⟨vc, hat, by intro q hq; cases hq⟩, hbl, Sl.nil _ _ _ _, by simp⟩⟩
      case round =>
        obtain ⟨j, S', T, hj, rfl, hTj, htold⟩ := hrel
        obtain ⟨⟨vc, hat, ho⟩, hbl, hrow, hperm⟩ := htold
        have hlen : T.length + (keysOf S').length = N := by
          have := hperm.length_eq
          rw [List.length_append, HN.out] at this
          exact this
        by_cases hlt : j < N
        · have hS' : S' ≠ [] := by
            rintro rfl
            simp [keysOf] at hlen
            omega
          have HV := Lib.hid (victim_some hat hbl.size hS')
          have HT := Lib.hid (And.intro hat (And.intro ho (And.intro hbl (And.intro hrow (And.intro hperm (And.intro hTj hlen))))))
          clear hat ho hbl hrow hperm hTj hlen hS'
          go_wp2_with fail
          refine HV.out.mono ?_
          rintro e w2 ⟨k, r, vc', hv, rfl, ht, hat2⟩
          rw [hv] at hat2
          obtain ⟨hat, ho, hbl, hrow, hperm, hTj, hlen⟩ := HT.out
          obtain ⟨ho2, hbl2, hrow2⟩ := AllI.turn hat ho hbl hrow ht hat2
          have hkc : keysOf ((k, false) :: r) = k :: keysOf r := rfl
          have hnd := hat2.nodup
          have hdr : drop ((k, false) :: r) k = r := drop_head hnd
          have hp2 : ((T ++ [k]) ++ keysOf r).Perm (keysOf S) := by
            have h1 := vic_perm S'
            rw [hv, hkc] at h1
            rw [List.append_assoc, List.singleton_append]
            exact (h1.append_left T).trans hperm
          have hD := drop_yes hat2 k (by rw [hkc]; simp)
          rw [hdr] at hD
          have HD := Lib.hid hD
          rw [hkc, List.nodup_cons] at hnd
          have H2 := Lib.hid (And.intro hat2 (And.intro ho2 (And.intro hbl2 (And.intro hrow2 (And.intro hp2 hnd.1)))))
          clear hat ho hbl hrow hperm hTj hlen ho2 hbl2 hrow2 hkc hnd hdr hp2 hD ht hat2 hv
          go_wp2_with fail
          refine HD.out.mono ?_
          rintro e w3 ⟨vc2, rfl, ht, hat3⟩
          obtain ⟨hat2, ho2, hbl2, hrow2, hp2, hkr⟩ := H2.out
          obtain ⟨ho3, hbl3, hrow3⟩ := AllI.turn hat2 ho2 hbl2 hrow2 ht hat3
          have HH := Lib.hid (has_any hat3 k false (by simp [hkr]))
          have H3 := Lib.hid (And.intro hat3 (And.intro ho3 (And.intro hbl3 (And.intro hrow3 hp2))))
          clear hat2 ho2 hbl2 hrow2 hp2 hkr ht hat3 ho3 hbl3 hrow3
          go_wp2_with fail
          refine HH.out.mono ?_
          rintro e w' ⟨rfl, rfl⟩
          have hTN : T.length + 1 ≤ 1000000 := by have := HT.out.2.2.2.2.2.1; omega
          go_wp2_with (at_builtin; refine wpList_append_sl _ rfl (.tmp 57) (.tmp 59) 32 rfl 3 i0 (.int .i64 0) 1 8 Try.underlying32 hi hz0 hz1 hz2 rfl (by decide) rfl (H3.out.2.2.2.1.below (by go_grown)) (some ⟨w3.heap.size, 0, none⟩) 1 1 [.int .i64 k] rfl (by simp) rfl (by intro ad had j u hu; cases had; match j, hu with | 0, hu => simp at hu; subst hu; simp [Addr.add]) (by intro u hu; simp at hu; subst hu; rfl) (by unfold maxLen; omega) (by omega) (by have := H3.out.2.2.1.size; rw [alloc_size]; omega) ?_)
          intro v' w4 hsl hgrow hown
          have hmore := AllI.more H3.out.1 H3.out.2.1 H3.out.2.2.1 H3.out.2.2.2.1.ge H3.out.2.2.2.2 (by go_grown) hsl hgrow (fun q hq => (hown q hq).elim .inl (fun h => .inr (by omega)))
          have HM := Lib.hid hmore
          clear hsl hgrow hown hmore
          go_wp2_with fail
          go_roundw
          case rel => exact ⟨j + 1, r, T ++ [k], by omega, by go_num, by rw [List.length_append, HT.out.2.2.2.2.2.1]; rfl, HM.out⟩
          case measure => simp [intOf]; omega
        · obtain rfl : j = N := by omega
          have hS0 : S' = [] := by
            have : (keysOf S').length = 0 := by omega
            have := List.length_eq_zero_iff.1 this
            exact List.map_eq_nil_iff.1 this
          subst hS0
          have hp : T.Perm (keysOf S) := by simpa [keysOf] using hperm
          have hTn : T.Nodup := hp.nodup_iff.2 HC.out.1.nodup
          have hTm : ∀ x ∈ L, x ∈ T := fun x hx => hp.mem_iff.2 ((HA.out x).2 hx)
          obtain ⟨at', capt, rfl, _, _⟩ := hrow.any
          have hTs : T.length ≤ 1000000 := by omega
          have H1 := Lib.hid (And.intro hat (And.intro hbl (And.intro hrow (And.intro hTn hTm))))
          clear hat ho hbl hrow hperm hlen hp hTn hTm
          subst hTj
          go_wp2_with fail
          go_loopw [10] (fun i wq => ∃ q : Nat, q ≤ L.length ∧ i = .int .i64 q ∧ Below wr.heap.size wr wq) (fun i _ => L.length - (intOf i).toNat)
          case atStart => exact ⟨0, by omega, rfl, Below.refl _ _⟩
          case round =>
            obtain ⟨q, hq, rfl, hbq⟩ := hrel
            have HQ := Lib.hid hbq
            clear hbq
            have hB : Below w.heap.size w wr := H1.out.2.1.trans (HQ.out.mono H1.out.2.1.size)
            by_cases hlt : q < L.length
            · obtain ⟨b, off, rfl, hbw, c0⟩ := HS.out.at_ hlt
              have hbz : b < wr.heap.size := Nat.lt_of_lt_of_le hbw hB.size
              have d0 : wr.cell? ⟨b, off + q, none⟩ = some (.int .i64 L[q]) := (hB.cell (p := ⟨b, off + q, none⟩) hbw).trans c0
              have HD := Lib.hid (And.intro hB (And.intro hbz d0))
              clear hB hbz d0 c0 hbw
              go_wp2_with fail
              go_loopw [11, 12] (fun t i wz => ∃ p : Nat, p ≤ T.length ∧ i = .int .i64 p ∧ t = .int .i64 ((T.take p).count L[q] : Nat) ∧ Below wr.heap.size wr wz) (fun _ i _ => T.length - (intOf i).toNat)
              case atStart => exact ⟨0, by omega, rfl, rfl, Below.refl _ _⟩
              case round =>
                obtain ⟨p, hp, rfl, rfl, hbp⟩ := hrel
                have HP := Lib.hid hbp
                clear hbp
                by_cases hlp : p < T.length
                · obtain ⟨bt, offt, capt', he, _, _⟩ := H1.out.2.2.1.shape (by omega)
                  cases he
                  have hbt := H1.out.2.2.1.lt bt rfl
                  have hb2 := HQ.out.size
                  have hb3 := HP.out.size
                  have e0 : wr.cell? ⟨bt, offt + p, none⟩ = some (.int .i64 T[p]) := ((HP.out.cell (p := ⟨bt, offt + p, none⟩) (by show bt < _; omega)).trans (HQ.out.cell (p := ⟨bt, offt + p, none⟩) hbt)).trans (H1.out.2.2.1.cell (encs_at hlp))
                  have e1 : wr.cell? ⟨b, off + q, none⟩ = some (.int .i64 L[q]) := (HP.out.cell (p := ⟨b, off + q, none⟩) HD.out.2.1).trans HD.out.2.2
                  have e2 : bt < wr.heap.size := by omega
                  have e3 : b < wr.heap.size := Nat.lt_of_lt_of_le HD.out.2.1 hb3
                  clear hbt hb2 hb3
                  by_cases he : T[p] = L[q]
                  · have ht : (T[p] == L[q]) = true := by simpa using he
                    have HCN := Lib.hid (tcount_yes L[q] p T hlp he)
                    have HCF := tcount_few L[q] p T
                    clear he
                    go_wp2_with fail
                    refine wp_region_flow_lit (fun w' => Below wr.heap.size wr w') (by kernel_rfl) (by kernel_rfl) (by go_grown) ?_
                    repeat (first | (refine flow_pass ?_ ?_; (focus rfl); simp only [Act.put, List.setIfInBounds_toArray, List.set_cons_zero, List.set_cons_succ]) | (refine' flow_take (v := _) _ _ _; rotate_left; (focus rfl); (focus (intro wS hS; obtain ⟨hc, -⟩ := bcell hS; go_simp; try (with_reducible (first | exact ⟨rfl, hS⟩ | rfl)); done)); simp only [Act.put, List.setIfInBounds_toArray, List.set_cons_zero, List.set_cons_succ]))
                    refine flow_nil ?_
                    intro w5 hS5
                    have H5 := Lib.hid hS5
                    clear hS5 e0 e1 e2 e3 ht
                    go_wp2_with fail
                    go_roundw
                    case rel => exact ⟨p + 1, by omega, by go_num, by rw [HCN.out]; go_num, HP.out.trans (H5.out.mono HP.out.size)⟩
                    case measure => simp [intOf]; omega
                  · have ht : (T[p] == L[q]) = false := by simpa using he
                    have HCN := Lib.hid (tcount_no L[q] p T hlp he)
                    have HCF := tcount_few L[q] p T
                    clear he
                    go_wp2_with fail
                    refine wp_region_flow_lit (fun w' => Below wr.heap.size wr w') (by kernel_rfl) (by kernel_rfl) (by go_grown) ?_
                    repeat (first | (refine flow_pass ?_ ?_; (focus rfl); simp only [Act.put, List.setIfInBounds_toArray, List.set_cons_zero, List.set_cons_succ]) | (refine' flow_take (v := _) _ _ _; rotate_left; (focus rfl); (focus (intro wS hS; obtain ⟨hc, -⟩ := bcell hS; go_simp; try (with_reducible (first | exact ⟨rfl, hS⟩ | rfl)); done)); simp only [Act.put, List.setIfInBounds_toArray, List.set_cons_zero, List.set_cons_succ]))
                    refine flow_nil ?_
                    intro w5 hS5
                    have H5 := Lib.hid hS5
                    clear hS5 e0 e1 e2 e3 ht
                    go_wp2_with fail
                    go_roundw
                    case rel => exact ⟨p + 1, by omega, by go_num, by rw [HCN.out], HP.out.trans (H5.out.mono HP.out.size)⟩
                    case measure => simp [intOf]; omega
                · obtain rfl : p = T.length := by omega
                  have h1 : ((T.take T.length).count L[q] : Nat) = 1 := by rw [List.take_length]; exact count_one H1.out.2.2.2.1 (H1.out.2.2.2.2 _ (List.getElem_mem hlt))
                  rw [h1]
                  clear h1
                  go_wp2_with fail
                  go_roundw
                  case rel => exact ⟨q + 1, by omega, by go_num, HQ.out.trans (HP.out.mono HQ.out.size)⟩
                  case measure => simp [intOf]; omega
            · have hat := H1.out.1.below HQ.out
              have HV := Lib.hid (victim_none hat rfl)
              have HL := Lib.hid (len_any hat)
              have HB := Lib.hid hB
              clear hat hB
              go_wp2_with fail
              refine HV.out.mono ?_
              rintro e w' ⟨rfl, rfl⟩
              go_wp2_with fail
              refine HL.out.mono ?_
              rintro e w' ⟨rfl, rfl⟩
              have e0 : (keysOf ([] : St)).length = 0 := rfl
              rw [e0]
              go_wp2_with fail
              refine (HK.out _).mono ?_
              rintro e w' ⟨rfl, hb⟩
              go_wp2_with fail
              go_ret
              exact ⟨rfl, HB.out.trans (hb.mono HB.out.size)⟩
theorem all_walk (A : Option Addr) (L : List Int) (cap : Nat) (_hlen : L.length ≤ maxLen) (hok : ∀ x ∈ L, kok x) (w : World) (hs : IntsAt w A L) :
    Calls Try.prog 4 #[.slice A L.length cap] w fun e w' => e = .returned (.bool true) ∧ Below w.heap.size w w' := by
  by_cases h : (60 : Int) < L.length
  · exact all_big A _ cap w h
  · exact all_main A L cap w hs hok h
end Go.Proofs.Ytcocdhlpmgfphaa
