/- clock.Clock at one key type: its methods over one base world. -/
import Derived.Test.YtcocdhlpmgfphaaVicS
namespace Go.Proofs.Ytcocdhlpmgfphaa.S
open Go Go.RowKit Go.Maps Go.WideShapes Go.ChangeMaps Go.WideMaps Go.MapKept

structure Ck (W : World) (g mb c : Nat) (L : St) (w : World) : Prop where
  at_ : ∃ v, At w W.heap.size g mb c v L
  bl : Below W.heap.size W w
theorem Ck.below {W w w' : World} {g mb c : Nat} {L : St} (h : Ck W g mb c L w) (hb : Below w.heap.size w w') : Ck W g mb c L w' := by
  obtain ⟨⟨v, hat⟩, hbl⟩ := h
  exact ⟨⟨v, hat.below hb⟩, hbl.trans (hb.mono hbl.size)⟩
theorem Ck.turn {W w w' : World} {g mb c c' : Nat} {v v' : Value} {L L' : St} (hat : At w W.heap.size g mb c v L) (hbl : Below W.heap.size W w) (ht : Turn g mb w w' v v') (hat' : At w' W.heap.size g mb c' v' L') : Ck W g mb c' L' w' :=
  ⟨⟨v', hat'⟩, hbl.trans (hat.bl ht hbl.size)⟩
theorem Ck.few {W w : World} {g mb c : Nat} {L : St} (h : Ck W g mb c L w) : (keysOf L).length ≤ c ∧ c ≤ 1000000 := by
  obtain ⟨⟨v, hat⟩, hbl⟩ := h
  exact ⟨hat.few, hat.c0⟩
theorem Ck.nodup {W w : World} {g mb c : Nat} {L : St} (h : Ck W g mb c L w) : (keysOf L).Nodup := by
  obtain ⟨⟨v, hat⟩, hbl⟩ := h
  exact hat.nodup
theorem Ck.ok {W w : World} {g mb c : Nat} {L : St} (h : Ck W g mb c L w) : ∀ k ∈ keysOf L, kok k := by
  obtain ⟨⟨v, hat⟩, hbl⟩ := h
  exact hat.ok
theorem new_ck (w : World) : Calls Try.prog 8 #[] w fun e w' => ∃ g mb, e = .returned (.pointer (some ⟨g, 0, none⟩)) ∧ Ck w g mb 0 [] w' :=
  (new_any w).mono (by rintro e w' ⟨g, mb, rfl, hb, _, _, ha⟩; exact ⟨g, mb, rfl, ⟨_, ha⟩, hb⟩)
theorem touch_ck {W w : World} {g mb c : Nat} {L : St} (h : Ck W g mb c L w) (s : K) (hs : kok s) (hc : c + 1 ≤ 1000000) :
    Calls Try.prog 9 #[.pointer (some ⟨g, 0, none⟩), .string s] w fun e w' => e = .returned (.tuple #[]) ∧ Ck W g mb (c + 1) (touch L s) w' := by
  obtain ⟨⟨v, hat⟩, hbl⟩ := h
  exact (touch_any hat hbl.size s hs hc).mono (by rintro e w' ⟨v', rfl, ht, ha⟩; exact ⟨rfl, Ck.turn hat hbl ht ha⟩)
theorem victim_ck {W w : World} {g mb c : Nat} {L : St} (h : Ck W g mb c L w) (hL : L ≠ []) :
    Calls Try.prog 10 #[.pointer (some ⟨g, 0, none⟩)] w fun e w' => ∃ k r, vic L = (k, false) :: r ∧ e = .returned (.tuple #[.string k, .bool true]) ∧ Ck W g mb c (vic L) w' := by
  obtain ⟨⟨v, hat⟩, hbl⟩ := h
  exact (victim_some hat hbl.size hL).mono (by rintro e w' ⟨k, r, v', hv, rfl, ht, ha⟩; exact ⟨k, r, hv, rfl, Ck.turn hat hbl ht ha⟩)
theorem victim_nil_ck {W w : World} {g mb c : Nat} {L : St} (h : Ck W g mb c L w) (hL : L = []) :
    Calls Try.prog 10 #[.pointer (some ⟨g, 0, none⟩)] w fun e w' => e = .returned (.tuple #[.string ⟨#[]⟩, .bool false]) ∧ w = w' := by
  obtain ⟨⟨v, hat⟩, hbl⟩ := h
  exact victim_none hat hL
theorem drop_ck {W w : World} {g mb c : Nat} {L : St} (h : Ck W g mb c L w) (s : K) (hin : s ∈ keysOf L) :
    Calls Try.prog 22 #[.pointer (some ⟨g, 0, none⟩), .string s] w fun e w' => e = .returned (.bool true) ∧ Ck W g mb c (drop L s) w' := by
  obtain ⟨⟨v, hat⟩, hbl⟩ := h
  exact (drop_yes hat s hin).mono (by rintro e w' ⟨v', rfl, ht, ha⟩; exact ⟨rfl, Ck.turn hat hbl ht ha⟩)
theorem drop_no_ck {W w : World} {g mb c : Nat} {L : St} (h : Ck W g mb c L w) (s : K) (hin : s ∉ keysOf L) :
    Calls Try.prog 22 #[.pointer (some ⟨g, 0, none⟩), .string s] w fun e w' => e = .returned (.bool false) ∧ w = w' := by
  obtain ⟨⟨v, hat⟩, hbl⟩ := h
  exact drop_no hat s hin
theorem has_ck {W w : World} {g mb c : Nat} {L : St} (h : Ck W g mb c L w) (s : K) (b : Bool) (hb : b = true ↔ s ∈ keysOf L) :
    Calls Try.prog 11 #[.pointer (some ⟨g, 0, none⟩), .string s] w fun e w' => e = .returned (.bool b) ∧ w = w' := by
  obtain ⟨⟨v, hat⟩, hbl⟩ := h
  exact has_any hat s b hb
theorem len_ck {W w : World} {g mb c : Nat} {L : St} (h : Ck W g mb c L w) :
    Calls Try.prog 27 #[.pointer (some ⟨g, 0, none⟩)] w fun e w' => e = .returned (.int .i64 ((keysOf L).length : Nat)) ∧ w = w' := by
  obtain ⟨⟨v, hat⟩, hbl⟩ := h
  exact len_any hat
theorem marked_ck {W w : World} {g mb c : Nat} {L : St} (h : Ck W g mb c L w) (s : K) (hs : kok s) (b : Bool) (hb : b = true ↔ (s, true) ∈ L) :
    Calls Try.prog 13 #[.pointer (some ⟨g, 0, none⟩), .string s] w fun e w' => e = .returned (.bool b) ∧ Below w.heap.size w w' := by
  obtain ⟨⟨v, hat⟩, hbl⟩ := h
  exact marked_any hat s hs b hb

/-! ### what Victim does to keys -/
theorem spin_perm : ∀ (n : Nat) (L : St), (keysOf (spin n L)).Perm (keysOf L)
  | 0, L => by unfold spin; exact List.Perm.refl _
  | n + 1, [] => by unfold spin; exact List.Perm.refl _
  | n + 1, (k, false) :: r => by unfold spin; exact List.Perm.refl _
  | n + 1, (k, true) :: r => by
    rw [spin]
    refine (spin_perm n _).trans ?_
    simp only [keysOf, List.map_append, List.map_cons, List.map_nil]
    exact List.perm_append_comm
theorem vic_perm (L : St) : (keysOf (vic L)).Perm (keysOf L) := spin_perm _ _
end Go.Proofs.Ytcocdhlpmgfphaa.S
