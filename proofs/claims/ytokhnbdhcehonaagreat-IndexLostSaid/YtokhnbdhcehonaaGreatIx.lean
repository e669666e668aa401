/- index: slices.IndexFunc (printed by gen_bs.py off its template). -/
import Derived.Test.YtokhnbdhcehonaaGreatRowk2
set_option linter.unusedSimpArgs false
set_option linter.unusedVariables false
namespace Go.Proofs.YtokhnbdhcehonaaGreat
open Go Go.RowKit Row
set_option maxRecDepth 100000
set_option maxHeartbeats 8000000 in
theorem ix_Hd {l : List Hd} {v : Value} {B B' : Nat} {w : World} {g : Nat} {lb : Array Value} {p : Hd → Bool} (hp : PB B w g lb p) (hB : B ≤ w.heap.size) (h : Rs w B' v l) :
    Calls Tryz.prog 156 #[v, .func (.func g) #[] lb] w fun e w' => ∃ i : Int, e = .returned (.int .i64 i) ∧ Below w.heap.size w w' ∧ ((i = -1 ∧ ∀ x ∈ l, p x = false) ∨ ∃ (j : Nat) (hj : j < l.length), i = j ∧ p l[j] = true ∧ ∀ y ∈ l.take j, p y = false) := by
  obtain ⟨A, cap, rfl, hlc, hcap⟩ := h.any
  have HP := Lib.hid hp
  have HR := Lib.hid h
  have eg := hp.eg
  clear hp h
  go_enter Tryz.func156, Tryz.ntmps156
  go_wp2_with fail
  go_loopw [8] (fun i wq => ∃ k : Nat, k ≤ l.length ∧ i = .int .i64 k ∧ (∀ y ∈ l.take k, p y = false) ∧ Below w.heap.size w wq) (fun i _ => l.length - (intOf i).toNat)
  case atStart => exact ⟨0, by omega, rfl, fun y hy => by simp at hy, Below.refl _ _⟩
  case round =>
    obtain ⟨k, hk, rfl, hno, hbq⟩ := hrel
    have HQ := Lib.hid hbq
    have HN := Lib.hid hno
    clear hbq hno
    by_cases hlt : k < l.length
    · have hltI : (k : Int) < (l.length : Int) := by omega
      obtain ⟨b, off, cap', he, _, _⟩ := HR.out.shape (by omega)
      cases he
      have HE := Lib.hid (rangeAt_below (HR.out.range hlt) (HR.out.lt b rfl) HQ.out)
      have HC := Lib.hid (HP.out.says wr l[k] (HQ.out.mono hB))
      have hk63 : wrap64 ((k : Int) + 1) = (k : Int) + 1 := IntWalk.wrap64_in _ (by have : maxLen = 9223372036854775807 := rfl; omega)
      have HMS : Hid (l.length - (intOf (.int .i64 (wrap64 ((k : Int) + 1)))).toNat < l.length - (intOf (.int .i64 (k : Int))).toNat) := Lib.hid (by
        rw [hk63]
        show l.length - ((k : Int) + 1).toNat < l.length - (k : Int).toNat
        omega)
      have HK63 := Lib.hid hk63
      clear hk63
      have HT : Hid (l.take (k + 1) = l.take k ++ [l[k]]) := Lib.hid (by rw [List.take_succ_eq_append_getElem hlt])
      cases hpx : p l[k] with
      | false =>
        have HPX := Lib.hid hpx
        rw [hpx] at HC
        clear hpx
        go_wp2_with (first
          | (refine rw_load (α := Hd) rfl (.tmp 14) rfl b (off + k * 3) rfl l[k] HE.out ?_)
          | (go_at_fn g; refine HC.out.mono ?_; rintro e w' ⟨rfl, hbw⟩; have HBW := Lib.hid (HQ.out.trans (hbw.mono HQ.out.size)); clear hbw))
        go_roundw
        case rel => exact ⟨k + 1, by omega, by rw [HK63.out]; rfl, fun y hy => by
          rw [HT.out] at hy
          rcases List.mem_append.1 hy with h1 | h1
          · exact HN.out y h1
          · rw [List.mem_singleton.1 h1]; exact HPX.out, HBW.out⟩
        case measure => exact HMS.out
      | true =>
        have HPX := Lib.hid hpx
        rw [hpx] at HC
        clear hpx
        go_wp2_with (first
          | (refine rw_load (α := Hd) rfl (.tmp 14) rfl b (off + k * 3) rfl l[k] HE.out ?_)
          | (go_at_fn g; refine HC.out.mono ?_; rintro e w' ⟨rfl, hbw⟩; have HBW := Lib.hid (HQ.out.trans (hbw.mono HQ.out.size)); clear hbw))
        go_returns
        exact ⟨_, rfl, HBW.out, .inr ⟨k, hlt, rfl, HPX.out, HN.out⟩⟩
    · have hltI : ¬ (k : Int) < (l.length : Int) := by omega
      obtain rfl : k = l.length := by omega
      have HN2 : Hid (∀ x ∈ l, p x = false) := Lib.hid (by have := HN.out; rwa [List.take_length] at this)
      clear HN
      go_wp2_with fail
      go_returns
      exact ⟨_, rfl, HQ.out, .inl ⟨rfl, HN2.out⟩⟩
set_option maxHeartbeats 8000000 in
theorem ix_Fl {l : List Fl} {v : Value} {B B' : Nat} {w : World} {g : Nat} {lb : Array Value} {p : Fl → Bool} (hp : PB B w g lb p) (hB : B ≤ w.heap.size) (h : Rs w B' v l) :
    Calls Tryz.prog 161 #[v, .func (.func g) #[] lb] w fun e w' => ∃ i : Int, e = .returned (.int .i64 i) ∧ Below w.heap.size w w' ∧ ((i = -1 ∧ ∀ x ∈ l, p x = false) ∨ ∃ (j : Nat) (hj : j < l.length), i = j ∧ p l[j] = true ∧ ∀ y ∈ l.take j, p y = false) := by
  obtain ⟨A, cap, rfl, hlc, hcap⟩ := h.any
  have HP := Lib.hid hp
  have HR := Lib.hid h
  have eg := hp.eg
  clear hp h
  go_enter Tryz.func161, Tryz.ntmps161
  go_wp2_with fail
  go_loopw [8] (fun i wq => ∃ k : Nat, k ≤ l.length ∧ i = .int .i64 k ∧ (∀ y ∈ l.take k, p y = false) ∧ Below w.heap.size w wq) (fun i _ => l.length - (intOf i).toNat)
  case atStart => exact ⟨0, by omega, rfl, fun y hy => by simp at hy, Below.refl _ _⟩
  case round =>
    obtain ⟨k, hk, rfl, hno, hbq⟩ := hrel
    have HQ := Lib.hid hbq
    have HN := Lib.hid hno
    clear hbq hno
    by_cases hlt : k < l.length
    · have hltI : (k : Int) < (l.length : Int) := by omega
      obtain ⟨b, off, cap', he, _, _⟩ := HR.out.shape (by omega)
      cases he
      have HE := Lib.hid (rangeAt_below (HR.out.range hlt) (HR.out.lt b rfl) HQ.out)
      have HC := Lib.hid (HP.out.says wr l[k] (HQ.out.mono hB))
      have hk63 : wrap64 ((k : Int) + 1) = (k : Int) + 1 := IntWalk.wrap64_in _ (by have : maxLen = 9223372036854775807 := rfl; omega)
      have HMS : Hid (l.length - (intOf (.int .i64 (wrap64 ((k : Int) + 1)))).toNat < l.length - (intOf (.int .i64 (k : Int))).toNat) := Lib.hid (by
        rw [hk63]
        show l.length - ((k : Int) + 1).toNat < l.length - (k : Int).toNat
        omega)
      have HK63 := Lib.hid hk63
      clear hk63
      have HT : Hid (l.take (k + 1) = l.take k ++ [l[k]]) := Lib.hid (by rw [List.take_succ_eq_append_getElem hlt])
      cases hpx : p l[k] with
      | false =>
        have HPX := Lib.hid hpx
        rw [hpx] at HC
        clear hpx
        go_wp2_with (first
          | (refine rw_load (α := Fl) rfl (.tmp 14) rfl b (off + k * 11) rfl l[k] HE.out ?_)
          | (go_at_fn g; refine HC.out.mono ?_; rintro e w' ⟨rfl, hbw⟩; have HBW := Lib.hid (HQ.out.trans (hbw.mono HQ.out.size)); clear hbw))
        go_roundw
        case rel => exact ⟨k + 1, by omega, by rw [HK63.out]; rfl, fun y hy => by
          rw [HT.out] at hy
          rcases List.mem_append.1 hy with h1 | h1
          · exact HN.out y h1
          · rw [List.mem_singleton.1 h1]; exact HPX.out, HBW.out⟩
        case measure => exact HMS.out
      | true =>
        have HPX := Lib.hid hpx
        rw [hpx] at HC
        clear hpx
        go_wp2_with (first
          | (refine rw_load (α := Fl) rfl (.tmp 14) rfl b (off + k * 11) rfl l[k] HE.out ?_)
          | (go_at_fn g; refine HC.out.mono ?_; rintro e w' ⟨rfl, hbw⟩; have HBW := Lib.hid (HQ.out.trans (hbw.mono HQ.out.size)); clear hbw))
        go_returns
        exact ⟨_, rfl, HBW.out, .inr ⟨k, hlt, rfl, HPX.out, HN.out⟩⟩
    · have hltI : ¬ (k : Int) < (l.length : Int) := by omega
      obtain rfl : k = l.length := by omega
      have HN2 : Hid (∀ x ∈ l, p x = false) := Lib.hid (by have := HN.out; rwa [List.take_length] at this)
      clear HN
      go_wp2_with fail
      go_returns
      exact ⟨_, rfl, HQ.out, .inl ⟨rfl, HN2.out⟩⟩
set_option maxHeartbeats 8000000 in
theorem ix_Nm {l : List Nm} {v : Value} {B B' : Nat} {w : World} {g : Nat} {lb : Array Value} {p : Nm → Bool} (hp : PB B w g lb p) (hB : B ≤ w.heap.size) (h : Rs w B' v l) :
    Calls Tryz.prog 98 #[v, .func (.func g) #[] lb] w fun e w' => ∃ i : Int, e = .returned (.int .i64 i) ∧ Below w.heap.size w w' ∧ ((i = -1 ∧ ∀ x ∈ l, p x = false) ∨ ∃ (j : Nat) (hj : j < l.length), i = j ∧ p l[j] = true ∧ ∀ y ∈ l.take j, p y = false) := by
  obtain ⟨A, cap, rfl, hlc, hcap⟩ := h.any
  have HP := Lib.hid hp
  have HR := Lib.hid h
  have eg := hp.eg
  clear hp h
  go_enter Tryz.func98, Tryz.ntmps98
  go_wp2_with fail
  go_loopw [8] (fun i wq => ∃ k : Nat, k ≤ l.length ∧ i = .int .i64 k ∧ (∀ y ∈ l.take k, p y = false) ∧ Below w.heap.size w wq) (fun i _ => l.length - (intOf i).toNat)
  case atStart => exact ⟨0, by omega, rfl, fun y hy => by simp at hy, Below.refl _ _⟩
  case round =>
    obtain ⟨k, hk, rfl, hno, hbq⟩ := hrel
    have HQ := Lib.hid hbq
    have HN := Lib.hid hno
    clear hbq hno
    by_cases hlt : k < l.length
    · have hltI : (k : Int) < (l.length : Int) := by omega
      obtain ⟨b, off, cap', he, _, _⟩ := HR.out.shape (by omega)
      cases he
      have HE := Lib.hid (rangeAt_below (HR.out.range hlt) (HR.out.lt b rfl) HQ.out)
      have HC := Lib.hid (HP.out.says wr l[k] (HQ.out.mono hB))
      have hk63 : wrap64 ((k : Int) + 1) = (k : Int) + 1 := IntWalk.wrap64_in _ (by have : maxLen = 9223372036854775807 := rfl; omega)
      have HMS : Hid (l.length - (intOf (.int .i64 (wrap64 ((k : Int) + 1)))).toNat < l.length - (intOf (.int .i64 (k : Int))).toNat) := Lib.hid (by
        rw [hk63]
        show l.length - ((k : Int) + 1).toNat < l.length - (k : Int).toNat
        omega)
      have HK63 := Lib.hid hk63
      clear hk63
      have HT : Hid (l.take (k + 1) = l.take k ++ [l[k]]) := Lib.hid (by rw [List.take_succ_eq_append_getElem hlt])
      cases hpx : p l[k] with
      | false =>
        have HPX := Lib.hid hpx
        rw [hpx] at HC
        clear hpx
        go_wp2_with (first
          | (refine rw_load (α := Nm) rfl (.tmp 14) rfl b (off + k * 3) rfl l[k] HE.out ?_)
          | (go_at_fn g; refine HC.out.mono ?_; rintro e w' ⟨rfl, hbw⟩; have HBW := Lib.hid (HQ.out.trans (hbw.mono HQ.out.size)); clear hbw))
        go_roundw
        case rel => exact ⟨k + 1, by omega, by rw [HK63.out]; rfl, fun y hy => by
          rw [HT.out] at hy
          rcases List.mem_append.1 hy with h1 | h1
          · exact HN.out y h1
          · rw [List.mem_singleton.1 h1]; exact HPX.out, HBW.out⟩
        case measure => exact HMS.out
      | true =>
        have HPX := Lib.hid hpx
        rw [hpx] at HC
        clear hpx
        go_wp2_with (first
          | (refine rw_load (α := Nm) rfl (.tmp 14) rfl b (off + k * 3) rfl l[k] HE.out ?_)
          | (go_at_fn g; refine HC.out.mono ?_; rintro e w' ⟨rfl, hbw⟩; have HBW := Lib.hid (HQ.out.trans (hbw.mono HQ.out.size)); clear hbw))
        go_returns
        exact ⟨_, rfl, HBW.out, .inr ⟨k, hlt, rfl, HPX.out, HN.out⟩⟩
    · have hltI : ¬ (k : Int) < (l.length : Int) := by omega
      obtain rfl : k = l.length := by omega
      have HN2 : Hid (∀ x ∈ l, p x = false) := Lib.hid (by have := HN.out; rwa [List.take_length] at this)
      clear HN
      go_wp2_with fail
      go_returns
      exact ⟨_, rfl, HQ.out, .inl ⟨rfl, HN2.out⟩⟩
set_option maxHeartbeats 8000000 in
theorem ix_Bl {l : List Bl} {v : Value} {B B' : Nat} {w : World} {g : Nat} {lb : Array Value} {p : Bl → Bool} (hp : PB B w g lb p) (hB : B ≤ w.heap.size) (h : Rs w B' v l) :
    Calls Tryz.prog 99 #[v, .func (.func g) #[] lb] w fun e w' => ∃ i : Int, e = .returned (.int .i64 i) ∧ Below w.heap.size w w' ∧ ((i = -1 ∧ ∀ x ∈ l, p x = false) ∨ ∃ (j : Nat) (hj : j < l.length), i = j ∧ p l[j] = true ∧ ∀ y ∈ l.take j, p y = false) := by
  obtain ⟨A, cap, rfl, hlc, hcap⟩ := h.any
  have HP := Lib.hid hp
  have HR := Lib.hid h
  have eg := hp.eg
  clear hp h
  go_enter Tryz.func99, Tryz.ntmps99
  go_wp2_with fail
  go_loopw [8] (fun i wq => ∃ k : Nat, k ≤ l.length ∧ i = .int .i64 k ∧ (∀ y ∈ l.take k, p y = false) ∧ Below w.heap.size w wq) (fun i _ => l.length - (intOf i).toNat)
  case atStart => exact ⟨0, by omega, rfl, fun y hy => by simp at hy, Below.refl _ _⟩
  case round =>
    obtain ⟨k, hk, rfl, hno, hbq⟩ := hrel
    have HQ := Lib.hid hbq
    have HN := Lib.hid hno
    clear hbq hno
    by_cases hlt : k < l.length
    · have hltI : (k : Int) < (l.length : Int) := by omega
      obtain ⟨b, off, cap', he, _, _⟩ := HR.out.shape (by omega)
      cases he
      have HE := Lib.hid (rangeAt_below (HR.out.range hlt) (HR.out.lt b rfl) HQ.out)
      have HC := Lib.hid (HP.out.says wr l[k] (HQ.out.mono hB))
      have hk63 : wrap64 ((k : Int) + 1) = (k : Int) + 1 := IntWalk.wrap64_in _ (by have : maxLen = 9223372036854775807 := rfl; omega)
      have HMS : Hid (l.length - (intOf (.int .i64 (wrap64 ((k : Int) + 1)))).toNat < l.length - (intOf (.int .i64 (k : Int))).toNat) := Lib.hid (by
        rw [hk63]
        show l.length - ((k : Int) + 1).toNat < l.length - (k : Int).toNat
        omega)
      have HK63 := Lib.hid hk63
      clear hk63
      have HT : Hid (l.take (k + 1) = l.take k ++ [l[k]]) := Lib.hid (by rw [List.take_succ_eq_append_getElem hlt])
      cases hpx : p l[k] with
      | false =>
        have HPX := Lib.hid hpx
        rw [hpx] at HC
        clear hpx
        go_wp2_with (first
          | (refine rw_load (α := Bl) rfl (.tmp 14) rfl b (off + k * 3) rfl l[k] HE.out ?_)
          | (go_at_fn g; refine HC.out.mono ?_; rintro e w' ⟨rfl, hbw⟩; have HBW := Lib.hid (HQ.out.trans (hbw.mono HQ.out.size)); clear hbw))
        go_roundw
        case rel => exact ⟨k + 1, by omega, by rw [HK63.out]; rfl, fun y hy => by
          rw [HT.out] at hy
          rcases List.mem_append.1 hy with h1 | h1
          · exact HN.out y h1
          · rw [List.mem_singleton.1 h1]; exact HPX.out, HBW.out⟩
        case measure => exact HMS.out
      | true =>
        have HPX := Lib.hid hpx
        rw [hpx] at HC
        clear hpx
        go_wp2_with (first
          | (refine rw_load (α := Bl) rfl (.tmp 14) rfl b (off + k * 3) rfl l[k] HE.out ?_)
          | (go_at_fn g; refine HC.out.mono ?_; rintro e w' ⟨rfl, hbw⟩; have HBW := Lib.hid (HQ.out.trans (hbw.mono HQ.out.size)); clear hbw))
        go_returns
        exact ⟨_, rfl, HBW.out, .inr ⟨k, hlt, rfl, HPX.out, HN.out⟩⟩
    · have hltI : ¬ (k : Int) < (l.length : Int) := by omega
      obtain rfl : k = l.length := by omega
      have HN2 : Hid (∀ x ∈ l, p x = false) := Lib.hid (by have := HN.out; rwa [List.take_length] at this)
      clear HN
      go_wp2_with fail
      go_returns
      exact ⟨_, rfl, HQ.out, .inl ⟨rfl, HN2.out⟩⟩
set_option maxHeartbeats 8000000 in
theorem ix_Ch {l : List Ch} {v : Value} {B B' : Nat} {w : World} {g : Nat} {lb : Array Value} {p : Ch → Bool} (hp : PB B w g lb p) (hB : B ≤ w.heap.size) (h : Rs w B' v l) :
    Calls Tryz.prog 100 #[v, .func (.func g) #[] lb] w fun e w' => ∃ i : Int, e = .returned (.int .i64 i) ∧ Below w.heap.size w w' ∧ ((i = -1 ∧ ∀ x ∈ l, p x = false) ∨ ∃ (j : Nat) (hj : j < l.length), i = j ∧ p l[j] = true ∧ ∀ y ∈ l.take j, p y = false) := by
  obtain ⟨A, cap, rfl, hlc, hcap⟩ := h.any
  have HP := Lib.hid hp
  have HR := Lib.hid h
  have eg := hp.eg
  clear hp h
  go_enter Tryz.func100, Tryz.ntmps100
  go_wp2_with fail
  go_loopw [8] (fun i wq => ∃ k : Nat, k ≤ l.length ∧ i = .int .i64 k ∧ (∀ y ∈ l.take k, p y = false) ∧ Below w.heap.size w wq) (fun i _ => l.length - (intOf i).toNat)
  case atStart => exact ⟨0, by omega, rfl, fun y hy => by simp at hy, Below.refl _ _⟩
  case round =>
    obtain ⟨k, hk, rfl, hno, hbq⟩ := hrel
    have HQ := Lib.hid hbq
    have HN := Lib.hid hno
    clear hbq hno
    by_cases hlt : k < l.length
    · have hltI : (k : Int) < (l.length : Int) := by omega
      obtain ⟨b, off, cap', he, _, _⟩ := HR.out.shape (by omega)
      cases he
      have HE := Lib.hid (rangeAt_below (HR.out.range hlt) (HR.out.lt b rfl) HQ.out)
      have HC := Lib.hid (HP.out.says wr l[k] (HQ.out.mono hB))
      have hk63 : wrap64 ((k : Int) + 1) = (k : Int) + 1 := IntWalk.wrap64_in _ (by have : maxLen = 9223372036854775807 := rfl; omega)
      have HMS : Hid (l.length - (intOf (.int .i64 (wrap64 ((k : Int) + 1)))).toNat < l.length - (intOf (.int .i64 (k : Int))).toNat) := Lib.hid (by
        rw [hk63]
        show l.length - ((k : Int) + 1).toNat < l.length - (k : Int).toNat
        omega)
      have HK63 := Lib.hid hk63
      clear hk63
      have HT : Hid (l.take (k + 1) = l.take k ++ [l[k]]) := Lib.hid (by rw [List.take_succ_eq_append_getElem hlt])
      cases hpx : p l[k] with
      | false =>
        have HPX := Lib.hid hpx
        rw [hpx] at HC
        clear hpx
        go_wp2_with (first
          | (refine rw_load (α := Ch) rfl (.tmp 14) rfl b (off + k * 18) rfl l[k] HE.out ?_)
          | (go_at_fn g; refine HC.out.mono ?_; rintro e w' ⟨rfl, hbw⟩; have HBW := Lib.hid (HQ.out.trans (hbw.mono HQ.out.size)); clear hbw))
        go_roundw
        case rel => exact ⟨k + 1, by omega, by rw [HK63.out]; rfl, fun y hy => by
          rw [HT.out] at hy
          rcases List.mem_append.1 hy with h1 | h1
          · exact HN.out y h1
          · rw [List.mem_singleton.1 h1]; exact HPX.out, HBW.out⟩
        case measure => exact HMS.out
      | true =>
        have HPX := Lib.hid hpx
        rw [hpx] at HC
        clear hpx
        go_wp2_with (first
          | (refine rw_load (α := Ch) rfl (.tmp 14) rfl b (off + k * 18) rfl l[k] HE.out ?_)
          | (go_at_fn g; refine HC.out.mono ?_; rintro e w' ⟨rfl, hbw⟩; have HBW := Lib.hid (HQ.out.trans (hbw.mono HQ.out.size)); clear hbw))
        go_returns
        exact ⟨_, rfl, HBW.out, .inr ⟨k, hlt, rfl, HPX.out, HN.out⟩⟩
    · have hltI : ¬ (k : Int) < (l.length : Int) := by omega
      obtain rfl : k = l.length := by omega
      have HN2 : Hid (∀ x ∈ l, p x = false) := Lib.hid (by have := HN.out; rwa [List.take_length] at this)
      clear HN
      go_wp2_with fail
      go_returns
      exact ⟨_, rfl, HQ.out, .inl ⟨rfl, HN2.out⟩⟩
end Go.Proofs.YtokhnbdhcehonaaGreat
