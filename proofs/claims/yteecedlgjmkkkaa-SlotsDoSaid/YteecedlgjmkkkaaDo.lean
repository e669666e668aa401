/- SlotsDo: the walk. -/
import Derived.Test.YteecedlgjmkkkaaRefStep
import Derived.Test.YteecedlgjmkkkaaOpen
namespace Go.Proofs.Yteecedlgjmkkkaa
open Go Go.RowKit

/-- a step as it lies in memory -/
structure Stp where
  kind : Int
  i : Int
def Stp.row (x : Stp) : List Value := [.int .i64 x.kind, .int .i64 x.i]
theorem stp_of_typed {vs : List Value} (h : Typed [2, 2] vs) : ∃ x : Stp, vs = x.row := by
  match vs, h with
  | [v0, v1], ⟨h0, h1, _⟩ =>
    cases v0 <;> simp [leafOk] at h0
    cases v1 <;> simp [leafOk] at h1
    obtain ⟨rfl, _⟩ := h0
    obtain ⟨rfl, _⟩ := h1
    exact ⟨⟨_, _⟩, rfl⟩
theorem steps_of_rows (R : List (List Value)) (h : ∀ (i : Nat) (hi : i < R.length), Typed [2, 2] R[i]) : ∃ L : List Stp, R = L.map Stp.row ∧ True := by
  induction R with
  | nil => exact ⟨[], rfl, trivial⟩
  | cons r R ih =>
    obtain ⟨L, rfl, hL⟩ := ih fun i hi => h (i + 1) (by simpa using hi)
    obtain ⟨x, hx⟩ := stp_of_typed (h 0 (by simp))
    exact ⟨x :: L, by simp [← hx], trivial⟩
def StepsAt (w : World) (A : Option Addr) (L : List Stp) : Prop := RowsAt w A 2 (L.map Stp.row)
theorem StepsAt.at_ {w : World} {A : Option Addr} {L : List Stp} (h : StepsAt w A L) {k : Nat} (hk : k < L.length) :
    ∃ b off, A = some ⟨b, off, none⟩ ∧ b < w.heap.size ∧ w.cell? ⟨b, off + k * 2, none⟩ = some (.int .i64 L[k].kind) ∧ w.cell? ⟨b, off + k * 2 + 1, none⟩ = some (.int .i64 L[k].i) := by
  obtain ⟨b, off, rfl, hlt, hc⟩ := h (by simpa using by omega)
  have hc := hc k (by simpa using hk)
  simp only [List.getElem_map] at hc
  exact ⟨b, off, rfl, hlt, hc 0 _ rfl, hc 1 _ rfl⟩

theorem own_ge {w : World} {base : Nat} {e : TypeId} {size : Nat} {v : Value} {n : Nat} {xs : List Value} (h : w.ownsRow base e size v n xs) : ∀ k, v.ownBlock = some k → base ≤ k := by
  intro k hk
  rcases h.2 with ⟨rfl, _⟩ | ⟨g, cap, cur, rfl, hb, _⟩
  · cases hk
  · simp [Value.ownBlock] at hk; omega
theorem own_row {w : World} {base : Nat} {v : Value} {L : List Nat} {n : Nat} (hn : L.length = n) (hp : 0 < n) (h : w.ownsRow base 3 1 v n (numC L)) : ∃ g cap, v = .slice (some ⟨g, 0, none⟩) n cap ∧ base ≤ g ∧ Row w g L := by
  subst hn
  rcases h.2 with ⟨_, h0⟩ | ⟨g, cap, cur, rfl, hb, hgg, _, _, _, ht⟩
  · omega
  · exact ⟨g, cap, rfl, hb, cur, hgg, by simpa using ht⟩

theorem step_low (l : List Nat) (kind i : Int) (h : ∀ x ∈ l, x < 3) : ∀ x ∈ (step l kind i).1, x < 3 := by
  have hs : ∀ (k v : Nat), v < 3 → ∀ x ∈ l.set k v, x < 3 := by
    intro k v hv x hx
    rcases List.mem_or_eq_of_mem_set hx with h1 | rfl
    · exact h x h1
    · exact hv
  unfold step
  repeat' split
  all_goals first | exact hs _ _ (by omega) | exact h | skip
  intro x hx
  obtain ⟨y, hy, rfl⟩ := List.mem_map.1 hx
  have := h y hy
  unfold fx
  split <;> omega

/-- the guard holds: the fixed calls -/
theorem do_big (n other : Int) (A : Option Addr) (m cap : Nat) (w : World) (h : (60 < n ∧ n ≤ 65536) ∨ 100 < m) :
    Calls Try.prog 4 #[.int .i64 n, .slice A m cap, .int .i64 other] w fun e w' => e = .returned (.bool true) ∧ Below w.heap.size w w' := by
  have HK := Lib.hid (known_any w)
  by_cases h1 : 60 < n
  · by_cases h2 : n ≤ 65536
    · clear h
      go_enter Try.func4, Try.ntmps4
      go_wp2_with fail
      refine HK.out.mono ?_
      rintro e w' ⟨rfl, hb⟩
      go_wp2_with fail
      go_ret
      exact ⟨rfl, hb⟩
    · have h : (100 : Int) < m := by omega
      go_enter Try.func4, Try.ntmps4
      go_wp2_with fail
      refine HK.out.mono ?_
      rintro e w' ⟨rfl, hb⟩
      go_wp2_with fail
      go_ret
      exact ⟨rfl, hb⟩
  · have h : (100 : Int) < m := by omega
    go_enter Try.func4, Try.ntmps4
    go_wp2_with fail
    refine HK.out.mono ?_
    rintro e w' ⟨rfl, hb⟩
    go_wp2_with fail
    go_ret
    exact ⟨rfl, hb⟩
theorem do_out (n other : Int) (A : Option Addr) (m cap : Nat) (w : World) (h : n < 1 ∨ 65536 < n) (hm : ¬ (100 : Int) < m) :
    Calls Try.prog 4 #[.int .i64 n, .slice A m cap, .int .i64 other] w fun e w' => e = .returned (.bool true) ∧ Below w.heap.size w w' := by
  have HK := Lib.hid (known_any w)
  by_cases h1 : n < 1
  · have HN := Lib.hid (new_low n w h1)
    have h60 : ¬ 60 < n := by omega
    clear h
    go_enter Try.func4, Try.ntmps4
    go_wp2_with fail
    refine HN.out.mono ?_
    rintro e w' ⟨rfl, rfl⟩
    go_wp2_with fail
    refine HK.out.mono ?_
    rintro e w' ⟨rfl, hb⟩
    go_wp2_with fail
    go_ret
    exact ⟨rfl, hb⟩
  · have h2 : 65536 < n := by omega
    have HN := Lib.hid (new_high n w h1 h2)
    have h60 : 60 < n := by omega
    clear h
    go_enter Try.func4, Try.ntmps4
    go_wp2_with fail
    refine HN.out.mono ?_
    rintro e w' ⟨rfl, rfl⟩
    go_wp2_with fail
    refine HK.out.mono ?_
    rintro e w' ⟨rfl, hb⟩
    go_wp2_with fail
    go_ret
    exact ⟨rfl, hb⟩
end Go.Proofs.Yteecedlgjmkkkaa
