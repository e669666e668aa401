/- sum.Summer: its table made once. -/
import Derived.Test.YthacpfijoadclaaBits
import Derived.Laws.LoneSync
import Derived.Defers
import Derived.RegionCalls
namespace Go.Proofs.Ythacpfijoadclaa
open Go Go.RowKit

theorem cell_at {w : World} {b : Nat} {C : Array Value} {t : TypeId} (h : w.heap[b]? = some (.cells C t)) (o : Nat) : w.cell? ⟨b, o, none⟩ = C[o]? := by
  unfold World.cell?; simp [h]
theorem froz_at {w : World} {b : Nat} {C : Array Value} {t : TypeId} (h : w.heap[b]? = some (.cells C t)) (o : Nat) : w.frozen? ⟨b, o, none⟩ = false := by
  unfold World.frozen?; simp [h]
theorem set_at {w : World} {b : Nat} {C : Array Value} {t : TypeId} (h : w.heap[b]? = some (.cells C t)) (o : Nat) (v : Value) : (w.setCell ⟨b, o, none⟩ v).heap[b]? = some (.cells (C.setIfInBounds o v) t) := by
  unfold World.setCell
  simp [Array.getElem?_modify, h]

/-- nothing but block g has turned -/
structure Only (g : Nat) (w w' : World) : Prop where
  os : w'.os = w.os
  tape : w'.tape = w.tape
  output : w'.output = w.output
  size : w'.heap.size = w.heap.size
  block : ∀ k, k ≠ g → w'.heap[k]? = w.heap[k]?
theorem Only.refl (g : Nat) (w : World) : Only g w w := ⟨rfl, rfl, rfl, rfl, fun _ _ => rfl⟩
theorem Only.trans {g : Nat} {w w' w'' : World} (h : Only g w w') (h' : Only g w' w'') : Only g w w'' :=
  ⟨h'.os.trans h.os, h'.tape.trans h.tape, h'.output.trans h.output, h'.size.trans h.size, fun k hk => (h'.block k hk).trans (h.block k hk)⟩
theorem Only.set {g : Nat} {w w' : World} (h : Only g w w') (o : Nat) (v : Value) : Only g w (w'.setCell ⟨g, o, none⟩ v) :=
  ⟨h.os, h.tape, h.output, by simpa [World.setCell] using h.size, fun k hk => (Below.heap_setCell _ _ _ _ (by simpa using hk)).trans (h.block k hk)⟩
theorem Only.drew {g : Nat} {w w' : World} (h : Only g w w') : Only g w w'.drew := ⟨h.os, h.tape, h.output, h.size, h.block⟩
theorem Only.below {g B : Nat} {w w' : World} (h : Only g w w') (hg : B ≤ g) : Below B w w' :=
  ⟨h.os, h.tape, h.output, by rw [h.size]; exact Nat.le_refl _, fun k hk => h.block k (by omega)⟩

def tabC (T : List W32) : List Value := T.map fun t => .int .u32 (nv t)
def objC (d st n : Int) (T : List W32) : Array Value := #[.int .u32 d, .int .i32 st, .int .u32 0, .int .i64 n] ++ (tabC T).toArray
/-- the summer at block g: done, its lock, its calls, its table -/
def Sm (w : World) (g : Nat) (d st n : Int) (T : List W32) : Prop := w.heap[g]? = some (.cells (objC d st n T) 55)
section
variable {w : World} {g : Nat} {d st n : Int} {T : List W32}
theorem Sm.c0 (h : Sm w g d st n T) : w.cell? ⟨g, 0, none⟩ = some (.int .u32 d) := by rw [cell_at h]; simp [objC]
theorem Sm.c1 (h : Sm w g d st n T) : w.cell? ⟨g, 1, none⟩ = some (.int .i32 st) := by rw [cell_at h]; simp [objC]
theorem Sm.c3 (h : Sm w g d st n T) : w.cell? ⟨g, 3, none⟩ = some (.int .i64 n) := by rw [cell_at h]; simp [objC]
theorem Sm.ct (h : Sm w g d st n T) {k : Nat} (hk : k < T.length) : w.cell? ⟨g, 4 + k, none⟩ = some (.int .u32 (nv T[k])) := by
  rw [cell_at h, objC, Array.getElem?_append_right (by simp)]
  simp [tabC, hk]
theorem Sm.fz (h : Sm w g d st n T) (o : Nat) : w.frozen? ⟨g, o, none⟩ = false := froz_at h o
theorem Sm.s0 (h : Sm w g d st n T) (x : Int) : Sm (w.setCell ⟨g, 0, none⟩ (.int .u32 x)) g x st n T := by
  unfold Sm; rw [set_at h]; simp [objC, Array.setIfInBounds_append_left]
theorem Sm.s1 (h : Sm w g d st n T) (x : Int) : Sm (w.setCell ⟨g, 1, none⟩ (.int .i32 x)) g d x n T := by
  unfold Sm; rw [set_at h]; simp [objC, Array.setIfInBounds_append_left]
theorem Sm.s3 (h : Sm w g d st n T) (x : Int) : Sm (w.setCell ⟨g, 3, none⟩ (.int .i64 x)) g d st x T := by
  unfold Sm; rw [set_at h]; simp [objC, Array.setIfInBounds_append_left]
theorem Sm.st' (h : Sm w g d st n T) (k : Nat) (r : W32) : Sm (w.setCell ⟨g, 4 + k, none⟩ (.int .u32 (nv r))) g d st n (T.set k r) := by
  unfold Sm
  rw [set_at h, objC, objC, Array.setIfInBounds_append_right (by simp)]
  congr 3
  apply Array.ext'
  simp [tabC, List.map_set]
theorem Sm.drew (h : Sm w g d st n T) : Sm w.drew g d st n T := h
theorem Sm.below {w' : World} (h : Sm w g d st n T) (hb : Below w.heap.size w w') : Sm w' g d st n T := by
  have hlt : g < w.heap.size := by
    rcases Nat.lt_or_ge g w.heap.size with h' | h'
    · exact h'
    · unfold Sm at h; rw [Array.getElem?_eq_none h'] at h; cases h
  exact (hb.block g hlt).trans h
end

def zeros : List W32 := List.replicate 16 0
def tab : List W32 := (List.range 16).map fun i => stepN 4 (BitVec.ofNat 32 i)
theorem nv_ofNat (k : Nat) (h : k < 16) : nv (BitVec.ofNat 32 k) = (k : Int) := by
  unfold nv
  rw [BitVec.toNat_ofNat, Nat.mod_eq_of_lt (by omega)]

theorem new_any (w : World) : Calls Try.prog 9 #[] w fun e w' => e = .returned (.pointer (some ⟨w.heap.size, 0, none⟩)) ∧ Below w.heap.size w w' ∧ Sm w' w.heap.size 0 0 0 zeros := by
  go_enter Try.func9, Try.ntmps9
  go_wp2
  go_ret
  refine ⟨rfl, by go_grown, ?_⟩
  show ((w.heap.push _))[w.heap.size]? = _
  rw [Array.getElem?_push, if_pos rfl]
  rfl

/-! ### fill -/
set_option maxHeartbeats 2000000 in
theorem fill_any (g : Nat) (d st n : Int) (T : List W32) (hT : T.length = 16) (w : World) (h : Sm w g d st n T) :
    Calls Try.prog 20 #[.pointer (some ⟨g, 0, none⟩)] w fun e w' => e = .returned (.tuple #[]) ∧ Only g w w' ∧ Sm w' g d st n tab := by
  have H := Lib.hid h
  clear h
  go_enter Try.func20, Try.ntmps20
  go_wp2
  go_loopw [4] (fun i wr => ∃ (k : Nat) (T' : List W32), k ≤ 16 ∧ i = .int .i64 k ∧ T'.length = 16 ∧ (∀ j, j < k → T'[j]? = some (stepN 4 (BitVec.ofNat 32 j))) ∧ Only g w wr ∧ Sm wr g d st n T') (fun i _ => 16 - (intOf i).toNat)
  case atStart => exact ⟨0, T, by omega, rfl, hT, by intro j hj; omega, Only.refl _ _, H.out⟩
  case round =>
    obtain ⟨k, T', hk, rfl, hT', hall, ho, hs⟩ := hrel
    have HX := Lib.hid (And.intro hall (And.intro ho (And.intro hs hT')))
    clear hall ho hs hT'
    by_cases hlt : k < 16
    · have hnk := nv_ofNat k hlt
      have HNK := Lib.hid hnk
      clear hnk
      have hki : (k : Int) < 16 := by omega
      go_wp2_with fail
      go_loop [9, 3] (fun c r => ∃ j : Nat, j ≤ 4 ∧ c = .int .i64 j ∧ r = .int .u32 (nv (stepN j (BitVec.ofNat 32 k)))) (fun c _ => 4 - (intOf c).toNat)
      case atStart => exact ⟨0, by omega, rfl, by rw [show stepN 0 (BitVec.ofNat 32 k) = BitVec.ofNat 32 k from rfl, HNK.out]⟩
      case round =>
        obtain ⟨j, hj, rfl, rfl⟩ := hrel
        by_cases hlj : j < 4
        · go_wp2_with fail
          refine (step_any _ _).mono ?_
          rintro e w' ⟨rfl, rfl⟩
          go_wp2_with fail
          go_roundw
          case rel => exact ⟨j + 1, by omega, by go_num, rfl⟩
          case measure => simp [intOf]; omega
        · obtain rfl : j = 4 := by omega
          have d0 := HX.out.2.2.1.ct (k := k) (by rw [HX.out.2.2.2]; exact hlt)
          have d1 := HX.out.2.2.1.fz (4 + k)
          go_wp2_with fail
          go_roundw
          case rel =>
            refine ⟨k + 1, T'.set k (stepN 4 (BitVec.ofNat 32 k)), by omega, by go_num, by simpa using HX.out.2.2.2, fun i hi => ?_, HX.out.2.1.set _ _, HX.out.2.2.1.st' k _⟩
            by_cases hik : i = k
            · subst hik
              rw [List.getElem?_set_self (by rw [HX.out.2.2.2]; exact hlt)]
            · rw [List.getElem?_set_ne (by omega)]
              exact HX.out.1 i (by omega)
          case measure => simp [intOf]; omega
    · obtain rfl : k = 16 := by omega
      have he : T' = tab := by
        apply List.ext_getElem?
        intro i
        by_cases hi : i < 16
        · rw [HX.out.1 i hi]
          simp [tab, hi]
        · rw [List.getElem?_eq_none (by rw [HX.out.2.2.2]; omega), List.getElem?_eq_none (by simp [tab]; omega)]
      go_wp2_with fail
      go_returns
      exact ⟨rfl, HX.out.2.1, he ▸ HX.out.2.2.1⟩
end Go.Proofs.Ythacpfijoadclaa
