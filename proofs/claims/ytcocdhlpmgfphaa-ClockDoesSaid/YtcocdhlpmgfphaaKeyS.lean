/- clock.Clock at one key type: what it holds; the library's functions that it calls. -/
import Derived.Test.YtcocdhlpmgfphaaDelS
import Derived.Test.YtcocdhlpmgfphaaFlow
import Derived.Handy
import Derived.Lib.Hide
import Derived.Maps.OwnSet
namespace Go.Proofs.Ytcocdhlpmgfphaa.S
open Go Go.RowKit Go.Maps Go.WideShapes Go.ChangeMaps Go.WideMaps Go.MapKept

abbrev K := ByteArray
instance decK : DecidableEq K := fun a b => decidable_of_iff (a.data.toList = b.data.toList) ⟨fun e => ByteArray.ext (Array.ext' e), fun e => by rw [e]⟩
instance decM (l : List K) (s : K) : Decidable (s ∈ l) := decidable_of_iff (l.any (fun k => decide (k = s)) = true) (by simp)
def kl (k : K) : Lit := .string k.data.toList
def kok (k : K) : Prop := k.size ≤ maxLen
theorem kl_inj {a b : K} (h : kl a = kl b) : a = b := by
  unfold kl at h; cases a; cases b; simp only [Lit.string.injEq] at h; congr; exact Array.ext' h
theorem key_of {k : K} (h : kok k) : keyOf Try.prog 9 (.string k) = some (kl k) := keyOf_string_mk Try.underlying9 h
theorem law : Keyed Try.prog 9 := string_keyed Try.underlying9
theorem key_lit (k : K) : WideAt.IsKeyLit (kl k) := by trivial

theorem eq_yes {a b : K} (h : a = b) : (ByteArray.toList a == ByteArray.toList b) = true := by subst h; simp
theorem eq_no {a b : K} (h : ¬ a = b) : (ByteArray.toList a == ByteArray.toList b) = false := by
  rw [Go.ByteArray.toList_eq, Go.ByteArray.toList_eq]; simpa using fun e => h (ByteArray.ext (Array.ext' e))

theorem neI' {a : Nat} (h : ¬ a = 0) : (((a : Nat) : Int) == 0) = false := by
  have : ¬ ((a : Nat) : Int) = 0 := by omega
  simpa using this

def encs (l : List K) : List Value := l.map fun k => .string k
theorem encs_len (l : List K) : (encs l).length = l.length := by simp [encs]
theorem encs_at {l : List K} {j : Nat} (h : j < l.length) : (encs l)[j]? = some (.string (l[j])) := by simp [encs, h]
theorem encs_one (l : List K) : ∀ u ∈ encs l, u.oneCell' = true := by
  intro u hu
  obtain ⟨x, _, rfl⟩ := List.mem_map.1 hu
  rfl

/-- the first place of a key -/
def IdxV (l : List K) (s : K) (w : World) (e : Ending) (w' : World) : Prop :=
  w = w' ∧ ((∃ k : Nat, l[k]? = some s ∧ (∀ j : Nat, j < k → l[j]? ≠ some s) ∧ e = .returned (.int .i64 k)) ∨ (s ∉ l ∧ e = .returned (.int .i64 (-1))))

set_option maxHeartbeats 1000000 in
theorem index_any {B : Nat} (A : Option Addr) (cap : Nat) (l : List K) (s : K) (w : World) (h : Sl w B 9 1 (.slice A l.length cap) l.length (encs l)) (hfew : l.length ≤ 1000000000) :
    Calls Try.prog 36 #[.slice A l.length cap, .string s] w (IdxV l s w) := by
  have HR := Lib.hid h
  clear h
  go_enter Try.func36, Try.ntmps36
  go_wp2
  go_loop [8] (fun i => ∃ k : Nat, k ≤ l.length ∧ (∀ j : Nat, j < k → l[j]? ≠ some s) ∧ i = .int .i64 k) (fun i => l.length - (intOf i).toNat)
  case atStart => exact ⟨0, by omega, by simp, rfl⟩
  case round =>
    obtain ⟨k, hk, hno, rfl⟩ := hrel
    have HN := Lib.hid hno
    clear hno
    by_cases hlt : k < l.length
    · obtain ⟨b, off, cap', he, _, _⟩ := HR.out.shape (by omega)
      cases he
      have hc := HR.out.cell (encs_at hlt)
      by_cases he : s = l[k]
      · have HE := Lib.hid he
        have ht := eq_yes he
        clear he
        go_wp2_with fail
        go_ret
        exact ⟨rfl, .inl ⟨k, by simp [hlt, HE.out], HN.out, rfl⟩⟩
      · have HE := Lib.hid he
        have ht := eq_no he
        clear he
        go_wp2_with fail
        go_round
        case rel =>
          refine ⟨k + 1, by omega, fun j hj => ?_, by go_num⟩
          by_cases hjk : j = k
          · subst hjk
            intro h
            rw [List.getElem?_eq_getElem hlt] at h
            exact HE.out (Option.some.inj h).symm
          · exact HN.out j (by omega)
        case measure => simp [intOf]; omega
    · go_wp2_with fail
      go_ret
      refine ⟨rfl, .inr ⟨fun hm => ?_, rfl⟩⟩
      obtain ⟨j, hj, he⟩ := List.getElem_of_mem hm
      exact HN.out j (by omega) (by rw [List.getElem?_eq_getElem hj, he])
theorem contains_any {B : Nat} (A : Option Addr) (cap : Nat) (l : List K) (s : K) (w : World) (h : Sl w B 9 1 (.slice A l.length cap) l.length (encs l)) (hfew : l.length ≤ 1000000000) (b : Bool) (hb : b = true ↔ s ∈ l) :
    Calls Try.prog 29 #[.slice A l.length cap, .string s] w fun e w' => e = .returned (.bool b) ∧ w = w' := by
  have HI := Lib.hid (index_any A cap l s w h hfew)
  have HB := Lib.hid hb
  clear h hb
  go_enter Try.func29, Try.ntmps29
  go_wp2_with fail
  refine HI.out.mono ?_
  rintro e w' ⟨rfl, ⟨k, hk, _, rfl⟩ | ⟨hno, rfl⟩⟩
  · have HM := Lib.hid (List.mem_of_getElem? hk)
    clear hk
    go_wp2_with fail
    go_ret
    have hb := HB.out.2 HM.out
    subst hb
    exact ⟨rfl, rfl⟩
  · have HM := Lib.hid hno
    clear hno
    go_wp2_with fail
    go_ret
    refine ⟨?_, rfl⟩
    cases b
    · rfl
    · exact absurd (HB.out.1 rfl) HM.out

theorem encs_take (l : List K) (n : Nat) : (encs l).take n = encs (l.take n) := by simp [encs, List.map_take]
theorem encs_drop (l : List K) (n : Nat) : (encs l).drop n = encs (l.drop n) := by simp [encs, List.map_drop]
theorem encs_append (l m : List K) : encs l ++ encs m = encs (l ++ m) := by simp [encs]

/-- slices.Delete(s, i, i + 1) -/
theorem del_any {B : Nat} (b off cap i : Nat) (l : List K) (w : World) (h : Sl w B 9 1 (.slice (some ⟨b, off, none⟩) l.length cap) l.length (encs l)) (hi : i < l.length) :
    Calls Try.prog 37 #[.slice (some ⟨b, off, none⟩) l.length cap, .int .i64 i, .int .i64 ((i : Int) + 1)] w fun e w' => e = .returned (.slice (some ⟨b, off, none⟩) (l.length - 1) cap) ∧ Sl w' B 9 1 (.slice (some ⟨b, off, none⟩) (l.length - 1) cap) (l.length - 1) (encs (l.take i ++ l.drop (i + 1))) ∧ w.grownBy w' (some b) := by
  obtain ⟨_, _, _, he, hn, hm⟩ := h.shape (by omega)
  cases he
  unfold maxLen at hm
  have hd := h.del (i := i) (zl := (Builtin.zeroCells (Value.cells (.string ⟨#[]⟩)) 1).toList) hi (by simp [Builtin.zeroCells, Value.cells])
  rw [Nat.mul_one, Nat.mul_one, encs_take, encs_drop, encs_append] at hd
  refine (delS_arr b off l.length cap i (encs l) (encs l).toArray (encs (l.drop (i + 1))) w hi hn hm ?_ ?_ (encs_one _) ?_ (fun j => h.froz j)).mono ?_
  · simp [encs]
  · intro t u hu
    rw [← encs_drop, List.getElem?_drop] at hu
    rw [show off + (i + 1) * 1 + t = off + (i + 1 + t) by omega]
    exact h.cell hu
  · intro j hj
    rw [h.cell (encs_at (by omega))]; rfl
  · rintro e w' ⟨rfl, rfl⟩
    rw [Nat.mul_one, Nat.mul_one] at *
    exact ⟨rfl, hd.1, hd.2⟩
end Go.Proofs.Ytcocdhlpmgfphaa.S
