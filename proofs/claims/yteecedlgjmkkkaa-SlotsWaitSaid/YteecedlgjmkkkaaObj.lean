/- slots.Slots: what it holds, and the contracts of its methods. -/
import Derived.Test.YteecedlgjmkkkaaProg
import Derived.WalkKit
import Derived.ProofKit
import Derived.Handy
import Derived.Lib.Hide
namespace Go.Proofs.Yteecedlgjmkkkaa
open Go Go.RowKit

theorem cell_at {w : World} {b : Nat} {C : Array Value} {t : TypeId} (h : w.heap[b]? = some (.cells C t)) (o : Nat) : w.cell? ⟨b, o, none⟩ = C[o]? := by
  unfold World.cell?; simp [h]
theorem froz_at {w : World} {b : Nat} {C : Array Value} {t : TypeId} (h : w.heap[b]? = some (.cells C t)) (o : Nat) : w.frozen? ⟨b, o, none⟩ = false := by
  unfold World.frozen?; simp [h]
theorem set_at {w : World} {b : Nat} {C : Array Value} {t : TypeId} (h : w.heap[b]? = some (.cells C t)) (o : Nat) (v : Value) : (w.setCell ⟨b, o, none⟩ v).heap[b]? = some (.cells (C.setIfInBounds o v) t) := by
  unfold World.setCell
  simp [Array.getElem?_modify, h]
theorem set_off {w : World} {b c : Nat} (h : c ≠ b) (o : Nat) (v : Value) : (w.setCell ⟨b, o, none⟩ v).heap[c]? = w.heap[c]? :=
  Below.heap_setCell _ _ _ _ (by simpa using h)

/-- nothing but blocks g and r has turned -/
structure Only (g r : Nat) (w w' : World) : Prop where
  os : w'.os = w.os
  tape : w'.tape = w.tape
  output : w'.output = w.output
  size : w'.heap.size = w.heap.size
  block : ∀ k, k ≠ g → k ≠ r → w'.heap[k]? = w.heap[k]?
theorem Only.refl (g r : Nat) (w : World) : Only g r w w := ⟨rfl, rfl, rfl, rfl, fun _ _ _ => rfl⟩
theorem Only.trans {g r : Nat} {w w' w'' : World} (h : Only g r w w') (h' : Only g r w' w'') : Only g r w w'' :=
  ⟨h'.os.trans h.os, h'.tape.trans h.tape, h'.output.trans h.output, h'.size.trans h.size, fun k hg hr => (h'.block k hg hr).trans (h.block k hg hr)⟩
theorem Only.set {g r : Nat} {w w' : World} (h : Only g r w w') (o : Nat) (v : Value) : Only g r w (w'.setCell ⟨g, o, none⟩ v) :=
  ⟨h.os, h.tape, h.output, by simpa [World.setCell] using h.size, fun k hg hr => (set_off hg o v).trans (h.block k hg hr)⟩
theorem Only.setr {g r : Nat} {w w' : World} (h : Only g r w w') (o : Nat) (v : Value) : Only g r w (w'.setCell ⟨r, o, none⟩ v) :=
  ⟨h.os, h.tape, h.output, by simpa [World.setCell] using h.size, fun k hg hr => (set_off hr o v).trans (h.block k hg hr)⟩
theorem Only.below {g r B : Nat} {w w' : World} (h : Only g r w w') (hg : B ≤ g) (hr : B ≤ r) : Below B w w' :=
  ⟨h.os, h.tape, h.output, by rw [h.size]; exact Nat.le_refl _, fun k hk => h.block k (by omega) (by omega)⟩

def rowC (l : List Nat) : Array Value := (l.map fun (x : Nat) => Value.int .i64 (x : Int)).toArray
def objC (r : Nat) (l : List Nat) : Array Value :=
  #[.slice (some ⟨r, 0, none⟩) l.length l.length, .int .i64 (l.count 0 : Nat), .int .i64 (l.count 1 : Nat), .int .i64 (l.count 2 : Nat)]

/-- the object at block g, its row at block r -/
structure At (w : World) (g r : Nat) (l : List Nat) : Prop where
  obj : w.heap[g]? = some (.cells (objC r l) 52)
  row : w.heap[r]? = some (.cells (rowC l) 53)
  ne : g ≠ r
  few : l.length ≤ 65536

theorem count_few (l : List Nat) (k : Nat) : l.count k ≤ l.length := List.count_le_length

/-! ### the library's atomic numbers -/
theorem add_any (b o : Nat) (x y : Int) (w : World) (hc : w.cell? ⟨b, o, none⟩ = some (.int .i64 x)) (hz : w.frozen? ⟨b, o, none⟩ = false) (h1 : -9223372036854775808 ≤ x + y) (h2 : x + y ≤ 9223372036854775807) :
    Calls Try.prog 23 #[.pointer (some ⟨b, o, none⟩), .int .i64 y] w fun e w' => e = .returned (.int .i64 (x + y)) ∧ w' = w.setCell ⟨b, o, none⟩ (.int .i64 (x + y)) := by
  have hadd := run_call_add (P := Try.prog) Try.func25 (by kernel_rfl) (by kernel_rfl) (by kernel_rfl) .i64 (by kernel_rfl) (y := y) (s := x + y) hc hz (by
    have e : IntKind.i64.wrap (x + y) = x + y := by rw [IntKind.wrap_i64]; omega
    simp [go_sem, e])
  go_enter Try.func23, Try.ntmps23
  go_wp2
  go_ret
  exact ⟨rfl, rfl⟩

theorem load_any (b o : Nat) (x : Int) (w : World) (hc : w.cell? ⟨b, o, none⟩ = some (.int .i64 x)) :
    Calls Try.prog 21 #[.pointer (some ⟨b, o, none⟩)] w fun e w' => e = .returned (.int .i64 x) ∧ w = w' := by
  have hadd := run_call_load (P := Try.prog) Try.func24 (by kernel_rfl) (by kernel_rfl) (by kernel_rfl) .i64 (by kernel_rfl) hc
  go_enter Try.func21, Try.ntmps21
  go_wp2
  go_ret
  exact ⟨rfl, rfl⟩

theorem store_any (b o : Nat) (x y : Int) (w : World) (hc : w.cell? ⟨b, o, none⟩ = some (.int .i64 x)) (hz : w.frozen? ⟨b, o, none⟩ = false) :
    Calls Try.prog 17 #[.pointer (some ⟨b, o, none⟩), .int .i64 y] w fun e w' => e = .returned (.tuple #[]) ∧ w' = w.setCell ⟨b, o, none⟩ (.int .i64 y) := by
  have hadd := run_call_store (P := Try.prog) Try.func22 (by kernel_rfl) (by kernel_rfl) (by kernel_rfl) (by kernel_rfl) (k := .i64) (y := y) hc hz
  go_enter Try.func17, Try.ntmps17
  go_wp2
  go_returns
  exact ⟨rfl, rfl⟩

/-! ### turn -/
def TurnV (g r : Nat) (l : List Nat) (i : Int) (f t : Nat) (w : World) (e : Ending) (w' : World) : Prop :=
  (0 ≤ i ∧ l[i.toNat]? = some f ∧ e = .returned (.bool true) ∧ Only g r w w' ∧ At w' g r (l.set i.toNat t)) ∨
  (¬ (0 ≤ i ∧ l[i.toNat]? = some f) ∧ e = .returned (.bool false) ∧ w = w')

theorem turn_nil (i f t : Int) (w : World) : Calls Try.prog 18 #[.pointer none, .int .i64 i, .int .i64 f, .int .i64 t] w fun e w' => e = .returned (.bool false) ∧ w = w' := by
  go_enter Try.func18, Try.ntmps18
  go_wp2
  go_ret
  exact ⟨rfl, rfl⟩

theorem turn_low (g : Nat) (i f t : Int) (w : World) (h : i < 0) : Calls Try.prog 18 #[.pointer (some ⟨g, 0, none⟩), .int .i64 i, .int .i64 f, .int .i64 t] w fun e w' => e = .returned (.bool false) ∧ w = w' := by
  go_enter Try.func18, Try.ntmps18
  go_wp2
  go_ret
  exact ⟨rfl, rfl⟩

theorem turn_high (g : Nat) (i f t : Int) (w : World) (A : Option Addr) (n c : Nat) (hc : w.cell? ⟨g, 0, none⟩ = some (.slice A n c)) (h0 : ¬ i < 0) (h : (n : Int) ≤ i) :
    Calls Try.prog 18 #[.pointer (some ⟨g, 0, none⟩), .int .i64 i, .int .i64 f, .int .i64 t] w fun e w' => e = .returned (.bool false) ∧ w = w' := by
  go_enter Try.func18, Try.ntmps18
  go_wp2
  go_ret
  exact ⟨rfl, rfl⟩

theorem turn_miss (g r : Nat) (k : Nat) (f t x : Int) (w : World) (n c : Nat) (hc : w.cell? ⟨g, 0, none⟩ = some (.slice (some ⟨r, 0, none⟩) n c)) (hk : k < n) (hx : w.cell? ⟨r, k, none⟩ = some (.int .i64 x)) (h : (x != f) = true) :
    Calls Try.prog 18 #[.pointer (some ⟨g, 0, none⟩), .int .i64 k, .int .i64 f, .int .i64 t] w fun e w' => e = .returned (.bool false) ∧ w = w' := by
  go_enter Try.func18, Try.ntmps18
  go_wp2
  go_ret
  exact ⟨rfl, rfl⟩

def three : List (Nat × Nat) := [(0, 1), (1, 2), (2, 0)]

theorem set_count (l : List Nat) (k f t j : Nat) (hk : k < l.length) (hf : l[k] = f) :
    (l.set k t).count j = l.count j - (if f = j then 1 else 0) + (if t = j then 1 else 0) := by
  rw [List.count_set hk, hf]; simp [beq_iff_eq]

theorem row_set (l : List Nat) (k t : Nat) : (rowC l).setIfInBounds k (.int .i64 (t : Int)) = rowC (l.set k t) := by
  unfold rowC
  apply Array.ext'
  simp [List.map_set]

theorem count_pos (l : List Nat) (k f : Nat) (hk : k < l.length) (hf : l[k] = f) : 0 < l.count f :=
  List.count_pos_iff.2 (hf ▸ List.getElem_mem hk)

/-- the row's number at its place -/
theorem row_at {w : World} {g r : Nat} {l : List Nat} (h : At w g r l) {k : Nat} (hk : k < l.length) : w.cell? ⟨r, k, none⟩ = some (.int .i64 (l[k] : Nat)) := by
  rw [cell_at h.row]; simp [rowC, hk]

/-- the two counts are turned -/
theorem obj_set {w1 : World} {g r : Nat} {l : List Nat} {k f t : Nat} (ft : (f, t) ∈ three) (hk : k < l.length) (hx : l[k] = f) (o1 : w1.heap[g]? = some (.cells (objC r l) 52)) :
    ((w1.setCell ⟨g, 1 + f, none⟩ (.int .i64 ((l.count f : Nat) + -1 : Int))).setCell ⟨g, 1 + t, none⟩ (.int .i64 ((l.count t : Nat) + 1 : Int))).heap[g]? = some (.cells (objC r (l.set k t)) 52) := by
  rw [set_at (set_at o1 _ _) _ _]
  have hpos := count_pos l k f hk hx
  have h0 := set_count l k f t 0 hk hx
  have h1 := set_count l k f t 1 hk hx
  have h2 := set_count l k f t 2 hk hx
  unfold objC
  rw [h0, h1, h2]
  simp only [three, List.mem_cons, List.not_mem_nil, or_false, Prod.mk.injEq] at ft
  rcases ft with ⟨rfl, rfl⟩ | ⟨rfl, rfl⟩ | ⟨rfl, rfl⟩ <;> simp <;> omega

set_option maxHeartbeats 2000000 in
theorem turn_hit (g r : Nat) (k f t : Nat) (l : List Nat) (w : World) (ft : (f, t) ∈ three) (hat : At w g r l) (hk : k < l.length) (hx : l[k] = f) :
    Calls Try.prog 18 #[.pointer (some ⟨g, 0, none⟩), .int .i64 k, .int .i64 f, .int .i64 t] w fun e w' => e = .returned (.bool true) ∧ Only g r w w' ∧ At w' g r (l.set k t) := by
  have hx' := row_at hat hk
  rw [hx] at hx'
  have hpos := count_pos l k f hk hx
  have hff := Nat.le_trans (count_few l f) hat.few
  have hft := Nat.le_trans (count_few l t) hat.few
  have c0 : w.cell? ⟨g, 0, none⟩ = some (.slice (some ⟨r, 0, none⟩) l.length l.length) := by rw [cell_at hat.obj]; rfl
  have zr := froz_at hat.row k
  -- the row is turned
  have o1 : (w.setCell ⟨r, k, none⟩ (.int .i64 (t : Int))).heap[g]? = some (.cells (objC r l) 52) := (set_off hat.ne _ _).trans hat.obj
  have r1 : (w.setCell ⟨r, k, none⟩ (.int .i64 (t : Int))).heap[r]? = some (.cells (rowC (l.set k t)) 53) := by rw [set_at hat.row, row_set]
  have on1 : Only g r w (w.setCell ⟨r, k, none⟩ (.int .i64 (t : Int))) := (Only.refl g r w).setr _ _
  have hl : (l.set k t).length ≤ 65536 := by simpa using hat.few
  have HE := Lib.hid (show (Only g r w (((w.setCell ⟨r, k, none⟩ (.int .i64 (t : Int))).setCell ⟨g, 1 + f, none⟩ (.int .i64 ((l.count f : Nat) + -1 : Int))).setCell ⟨g, 1 + t, none⟩ (.int .i64 ((l.count t : Nat) + 1 : Int))) ∧ At (((w.setCell ⟨r, k, none⟩ (.int .i64 (t : Int))).setCell ⟨g, 1 + f, none⟩ (.int .i64 ((l.count f : Nat) + -1 : Int))).setCell ⟨g, 1 + t, none⟩ (.int .i64 ((l.count t : Nat) + 1 : Int))) g r (l.set k t)) from
    ⟨(on1.set _ _).set _ _, ⟨obj_set ft hk hx o1, (set_off (Ne.symm hat.ne) _ _).trans ((set_off (Ne.symm hat.ne) _ _).trans r1), hat.ne, hl⟩⟩)
  have A1 := add_any g (1 + f) (l.count f : Nat) (-1) (w.setCell ⟨r, k, none⟩ (.int .i64 (t : Int)))
    (by rw [cell_at o1]; simp only [three, List.mem_cons, List.not_mem_nil, or_false, Prod.mk.injEq] at ft; rcases ft with ⟨rfl, rfl⟩ | ⟨rfl, rfl⟩ | ⟨rfl, rfl⟩ <;> rfl) (froz_at o1 _) (by omega) (by omega)
  have A2 := add_any g (1 + t) (l.count t : Nat) 1 ((w.setCell ⟨r, k, none⟩ (.int .i64 (t : Int))).setCell ⟨g, 1 + f, none⟩ (.int .i64 ((l.count f : Nat) + -1 : Int)))
    (by rw [cell_at (set_at o1 _ _)]; simp only [three, List.mem_cons, List.not_mem_nil, or_false, Prod.mk.injEq] at ft; rcases ft with ⟨rfl, rfl⟩ | ⟨rfl, rfl⟩ | ⟨rfl, rfl⟩ <;> rfl) (froz_at (set_at o1 _ _) _) (by omega) (by omega)
  clear hat o1 r1 on1 hpos
  have hk0 : ¬ (k : Int) < 0 := by omega
  generalize l.count f = cf at *
  generalize l.count t = ct at *
  simp only [three, List.mem_cons, List.not_mem_nil, or_false, Prod.mk.injEq] at ft
  rcases ft with ⟨rfl, rfl⟩ | ⟨rfl, rfl⟩ | ⟨rfl, rfl⟩
  all_goals
    go_enter Try.func18, Try.ntmps18
    go_wp2_with fail
    refine A1.mono ?_
    rintro e w' ⟨rfl, rfl⟩
    go_wp2_with fail
    refine A2.mono ?_
    rintro e w' ⟨rfl, rfl⟩
    go_wp2_with fail
    go_ret
    exact ⟨rfl, HE.out⟩

theorem turn_any (g r : Nat) (i : Int) (f t : Nat) (l : List Nat) (w : World) (ft : (f, t) ∈ three) (hat : At w g r l) :
    Calls Try.prog 18 #[.pointer (some ⟨g, 0, none⟩), .int .i64 i, .int .i64 f, .int .i64 t] w (TurnV g r l i f t w) := by
  have c0 : w.cell? ⟨g, 0, none⟩ = some (.slice (some ⟨r, 0, none⟩) l.length l.length) := by rw [cell_at hat.obj]; rfl
  by_cases h0 : i < 0
  · refine (turn_low g i f t w h0).mono ?_
    rintro e w' ⟨rfl, rfl⟩
    exact .inr ⟨fun h => by omega, rfl, rfl⟩
  · obtain ⟨k, rfl⟩ : ∃ k : Nat, i = k := ⟨i.toNat, by omega⟩
    by_cases hk : k < l.length
    · by_cases hx : l[k] = f
      · refine (turn_hit g r k f t l w ft hat hk hx).mono ?_
        rintro e w' ⟨rfl, h1, h2⟩
        exact .inl ⟨by omega, by simp [hk, hx], rfl, h1, by simpa using h2⟩
      · refine (turn_miss g r k f t (l[k] : Nat) w _ _ c0 hk (row_at hat hk) (by simp; omega)).mono ?_
        rintro e w' ⟨rfl, rfl⟩
        exact .inr ⟨fun h => by simp [hk, hx] at h, rfl, rfl⟩
    · refine (turn_high g k f t w _ _ _ c0 h0 (by omega)).mono ?_
      rintro e w' ⟨rfl, rfl⟩
      exact .inr ⟨fun h => by simp [hk] at h, rfl, rfl⟩

/-! ### Use, Give -/
theorem use_any (g r : Nat) (i : Int) (l : List Nat) (w : World) (hat : At w g r l) :
    Calls Try.prog 16 #[.pointer (some ⟨g, 0, none⟩), .int .i64 i] w (TurnV g r l i 0 1 w) := by
  have T := turn_any g r i 0 1 l w (by decide) hat
  have HT := Lib.hid T
  clear T hat
  go_enter Try.func16, Try.ntmps16
  go_wp2_with fail
  refine HT.out.mono ?_
  rintro e w' (⟨h0, h1, rfl, h2, h3⟩ | ⟨h0, rfl, rfl⟩)
  · go_wp2_with fail
    go_ret
    exact .inl ⟨h0, h1, rfl, h2, h3⟩
  · go_wp2_with fail
    go_ret
    exact .inr ⟨h0, rfl, rfl⟩
theorem give_any (g r : Nat) (i : Int) (l : List Nat) (w : World) (hat : At w g r l) :
    Calls Try.prog 9 #[.pointer (some ⟨g, 0, none⟩), .int .i64 i] w (TurnV g r l i 1 2 w) := by
  have T := turn_any g r i 1 2 l w (by decide) hat
  have HT := Lib.hid T
  clear T hat
  go_enter Try.func9, Try.ntmps9
  go_wp2_with fail
  refine HT.out.mono ?_
  rintro e w' (⟨h0, h1, rfl, h2, h3⟩ | ⟨h0, rfl, rfl⟩)
  · go_wp2_with fail
    go_ret
    exact .inl ⟨h0, h1, rfl, h2, h3⟩
  · go_wp2_with fail
    go_ret
    exact .inr ⟨h0, rfl, rfl⟩
end Go.Proofs.Yteecedlgjmkkkaa
