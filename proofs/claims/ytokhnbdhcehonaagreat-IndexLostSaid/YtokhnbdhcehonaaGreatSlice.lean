/- A slice that lies anywhere in a row of the call's own: appended to, cut at its head, an element taken out. -/
import Derived.WalkKit
import Derived.ProofKit
import Derived.OwnWalk
import Derived.ArgAppend
set_option linter.unusedSimpArgs false
set_option linter.unusedVariables false
namespace Go.Proofs.YtokhnbdhcehonaaGreat
open Go Go.RowKit

def overl (cur : Array Value) (o : Nat) : List Value → Array Value
  | [] => cur
  | v :: r => overl (cur.setIfInBounds o v) (o + 1) r
theorem overl_size (cur : Array Value) (o : Nat) (vs : List Value) : (overl cur o vs).size = cur.size := by
  induction vs generalizing cur o with
  | nil => rfl
  | cons v r ih => simp [overl, ih]
theorem overl_out (cur : Array Value) (o : Nat) (vs : List Value) (j : Nat) (h : j < o ∨ o + vs.length ≤ j) : (overl cur o vs)[j]? = cur[j]? := by
  induction vs generalizing cur o with
  | nil => rfl
  | cons v r ih =>
    have hl : (v :: r).length = r.length + 1 := rfl
    rw [overl, ih _ _ (by omega), Array.getElem?_setIfInBounds_ne (by omega)]
theorem overl_in (cur : Array Value) (o : Nat) (vs : List Value) (j : Nat) (hj : j < vs.length) (h : o + vs.length ≤ cur.size) : (overl cur o vs)[o + j]? = vs[j]? := by
  induction vs generalizing cur o j with
  | nil => exact absurd hj (Nat.not_lt_zero _)
  | cons v r ih =>
    have hl : (v :: r).length = r.length + 1 := rfl
    rw [overl]
    cases j with
    | zero =>
      rw [overl_out _ _ _ (o + 0) (.inl (by omega)), Nat.add_zero, Array.getElem?_setIfInBounds_self_of_lt (by omega)]
      rfl
    | succ j =>
      rw [show o + (j + 1) = o + 1 + j by omega, ih _ _ _ (by omega) (by simp; omega)]
      rfl
theorem setCell_heap {w : World} {b : Nat} {cur : Array Value} {t : TypeId} (h : w.heap[b]? = some (.cells cur t)) (o : Nat) (v : Value) : (w.setCell ⟨b, o, none⟩ v).heap[b]? = some (.cells (cur.setIfInBounds o v) t) := by
  unfold World.setCell
  simp [Array.getElem?_modify, h]
theorem setCells_heap {b : Nat} {t : TypeId} : ∀ (vs : List Value) (o : Nat) (w : World) (cur : Array Value), w.heap[b]? = some (.cells cur t) → (w.setCells b o vs).heap[b]? = some (.cells (overl cur o vs) t)
  | [], _, _, _, h => h
  | v :: r, o, w, cur, h => by
    rw [World.setCells, overl]
    exact setCells_heap r (o + 1) _ _ (setCell_heap h o v)
theorem setCells_grown (b : Nat) : ∀ (vs : List Value) (o : Nat) (w : World), w.grownBy (w.setCells b o vs) (some b)
  | [], _, w => ⟨rfl, rfl, rfl, Nat.le_refl _, fun _ _ _ => rfl⟩
  | v :: r, o, w => by
    have h1 : w.grownBy (w.setCell ⟨b, o, none⟩ v) (some b) := ⟨rfl, rfl, rfl, by simp [World.setCell], fun k _ hk => Below.heap_setCell _ _ _ _ (by intro e; exact hk (by simp at e; rw [e]))⟩
    have h2 := setCells_grown b r (o + 1) (w.setCell ⟨b, o, none⟩ v)
    exact ⟨h2.os.trans h1.os, h2.tape.trans h1.tape, h2.output.trans h1.output, Nat.le_trans h1.size h2.size, fun k hk hne => (h2.block k (Nat.lt_of_lt_of_le hk h1.size) hne).trans (h1.block k hk hne)⟩
theorem row_cell {w : World} {b : Nat} {C : Array Value} {t : TypeId} (h : w.heap[b]? = some (.cells C t)) (o : Nat) : w.cell? ⟨b, o, none⟩ = C[o]? := by
  unfold World.cell?; simp [h]
theorem row_froz {w : World} {b : Nat} {C : Array Value} {t : TypeId} (h : w.heap[b]? = some (.cells C t)) (o : Nat) : w.frozen? ⟨b, o, none⟩ = false := by
  unfold World.frozen?; simp [h]
theorem heap_lt {w : World} {k : Nat} {o : Obj} (h : w.heap[k]? = some o) : k < w.heap.size := by
  rcases Nat.lt_or_ge k w.heap.size with h' | h'
  · exact h'
  · rw [Array.getElem?_eq_none h'] at h; cases h
theorem alloc_old (w : World) (o : Obj) (k : Nat) (h : k < w.heap.size) : (w.alloc o).heap[k]? = w.heap[k]? := by
  show (w.heap.push o)[k]? = _
  rw [Array.getElem?_push, if_neg (by omega)]
theorem alloc_size (w : World) (o : Obj) : (w.alloc o).heap.size = w.heap.size + 1 := by
  show (w.heap.push o).size = _
  simp
theorem bcell {B : Nat} {W w1 : World} (hb : Below B W w1) : (∀ b o, b < B → w1.cell? ⟨b, o, none⟩ = W.cell? ⟨b, o, none⟩) ∧ (∀ b o, b < B → w1.frozen? ⟨b, o, none⟩ = W.frozen? ⟨b, o, none⟩) :=
  ⟨fun b o h => hb.cell (p := ⟨b, o, none⟩) h, fun b o h => hb.frozen (p := ⟨b, o, none⟩) h⟩
theorem addr_add (b o j : Nat) : (⟨b, o, none⟩ : Addr).add j = ⟨b, o + j, none⟩ := by unfold Addr.add; split <;> simp_all

theorem _root_.Go.World.grownBy.andThen' {w w' w'' : World} {row : Option Nat} (h : w.grownBy w' row) (h' : w'.grownBy w'' row) : w.grownBy w'' row :=
  ⟨h'.os.trans h.os, h'.tape.trans h.tape, h'.output.trans h.output, Nat.le_trans h.size h'.size, fun k hk hne => (h'.block k (Nat.lt_of_lt_of_le hk h.size) hne).trans (h.block k hk hne)⟩

/-- v: n elements of sz cells each, the cells xs; nil, or in a row among the blocks from B on -/
def Sl (w : World) (B : Nat) (e : TypeId) (sz : Nat) (v : Value) (n : Nat) (xs : List Value) : Prop :=
  xs.length = n * sz ∧ ((v = .slice none 0 0 ∧ n = 0) ∨
    ∃ b off cap cur, v = .slice (some ⟨b, off, none⟩) n cap ∧ B ≤ b ∧ w.heap[b]? = some (.cells cur e) ∧ n ≤ cap ∧ cap ≤ maxLen ∧ off + cap * sz ≤ cur.size ∧ ∀ j u, xs[j]? = some u → cur[off + j]? = some u)

section
variable {w : World} {B : Nat} {e : TypeId} {sz : Nat} {v : Value} {n : Nat} {xs : List Value}
theorem Sl.nil (w : World) (B : Nat) (e : TypeId) (sz : Nat) : Sl w B e sz (.slice none 0 0) 0 [] := ⟨by simp, .inl ⟨rfl, rfl⟩⟩
theorem Sl.of_own (h : w.ownsRow B e sz v n xs) : Sl w B e sz v n xs := by
  refine ⟨h.1, ?_⟩
  rcases h.2 with hn | ⟨g, cap, cur, rfl, hb, hg, hnc, hcm, hs, ht⟩
  · exact .inl hn
  · refine .inr ⟨g, 0, cap, cur, rfl, hb, hg, hnc, hcm, by omega, fun j u hu => ?_⟩
    rw [← ht, List.getElem?_take] at hu
    split at hu
    · simpa using hu
    · cases hu
theorem Sl.mono (h : Sl w B e sz v n xs) {B' : Nat} (hB : B' ≤ B) : Sl w B' e sz v n xs := by
  refine ⟨h.1, ?_⟩
  rcases h.2 with hn | ⟨b, off, cap, cur, rfl, hb, r⟩
  · exact .inl hn
  · exact .inr ⟨b, off, cap, cur, rfl, by omega, r⟩
theorem Sl.ge (h : Sl w B e sz v n xs) : ∀ k, v.ownBlock = some k → B ≤ k := by
  intro k hk
  rcases h.2 with ⟨rfl, _⟩ | ⟨b, off, cap, cur, rfl, hb, _⟩
  · cases hk
  · simp [Value.ownBlock] at hk; omega
theorem Sl.lt (h : Sl w B e sz v n xs) : ∀ k, v.ownBlock = some k → k < w.heap.size := by
  intro k hk
  rcases h.2 with ⟨rfl, _⟩ | ⟨b, off, cap, cur, rfl, hb, hg, _⟩
  · cases hk
  · simp [Value.ownBlock] at hk; subst hk; exact heap_lt hg
theorem Sl.of {w' : World} (h : Sl w B e sz v n xs) (hb : ∀ k, v.ownBlock = some k → w'.heap[k]? = w.heap[k]?) : Sl w' B e sz v n xs := by
  refine ⟨h.1, ?_⟩
  rcases h.2 with hn | ⟨b, off, cap, cur, rfl, hB, hg, r⟩
  · exact .inl hn
  · exact .inr ⟨b, off, cap, cur, rfl, hB, (hb b rfl).trans hg, r⟩
theorem Sl.below {w' : World} (h : Sl w B e sz v n xs) (hb : Below w.heap.size w w') : Sl w' B e sz v n xs := h.of fun k hk => hb.block k (h.lt k hk)
theorem Sl.grown {w' : World} {row : Option Nat} (h : Sl w B e sz v n xs) (hg : w.grownBy w' row) (hne : v.ownBlock = none ∨ v.ownBlock ≠ row) : Sl w' B e sz v n xs := h.of fun k hk => hg.block k (h.lt k hk) (by
  rcases hne with h0 | h0
  · rw [h0] at hk; cases hk
  · rw [← hk]; exact h0)
theorem Sl.cell {b off cap : Nat} (h : Sl w B e sz (.slice (some ⟨b, off, none⟩) n cap) n xs) {j : Nat} {u : Value} (hu : xs[j]? = some u) : w.cell? ⟨b, off + j, none⟩ = some u := by
  rcases h.2 with ⟨h0, _⟩ | ⟨b', off', cap', cur, he, hB, hg, _, _, _, hc⟩
  · cases h0
  · cases he
    rw [row_cell hg]
    exact hc j u hu
theorem Sl.froz {b off cap : Nat} (h : Sl w B e sz (.slice (some ⟨b, off, none⟩) n cap) n xs) (j : Nat) : w.frozen? ⟨b, j, none⟩ = false := by
  rcases h.2 with ⟨h0, _⟩ | ⟨b', off', cap', cur, he, hB, hg, _, _, _, hc⟩
  · cases h0
  · cases he
    exact row_froz hg j
theorem Sl.off {k : Nat} {C : Array Value} {t : TypeId} (h : Sl w B e sz v n xs) (hk : w.heap[k]? = some (.cells C t)) (ht : t ≠ e) : v.ownBlock ≠ some k := by
  intro he
  rcases h.2 with ⟨rfl, _⟩ | ⟨b, off, cap, cur, rfl, hB, hg, _⟩
  · cases he
  · simp [Value.ownBlock] at he; subst he
    rw [hk] at hg; cases hg; exact ht rfl
theorem Sl.offMap {k : Nat} {es : Array MapEntry} {ck : Nat} (h : Sl w B e sz v n xs) (hk : w.heap[k]? = some (.map es ck)) : v.ownBlock ≠ some k := by
  intro he
  rcases h.2 with ⟨rfl, _⟩ | ⟨b, off, cap, cur, rfl, hB, hg, _⟩
  · cases he
  · simp [Value.ownBlock] at he; subst he
    rw [hk] at hg; cases hg
/-- whatever it is, its value's shape -/
theorem Sl.shape (h : Sl w B e sz v n xs) (hp : 0 < n) : ∃ b off cap, v = .slice (some ⟨b, off, none⟩) n cap ∧ n ≤ cap ∧ cap ≤ maxLen := by
  rcases h.2 with ⟨_, h0⟩ | ⟨b, off, cap, cur, rfl, hB, hg, h1, h2, _⟩
  · omega
  · exact ⟨b, off, cap, rfl, h1, h2⟩
theorem Sl.any (h : Sl w B e sz v n xs) : ∃ A cap, v = .slice A n cap ∧ n ≤ cap ∧ cap ≤ maxLen := by
  rcases h.2 with ⟨rfl, rfl⟩ | ⟨b, off, cap, cur, rfl, hB, hg, h1, h2, _⟩
  · exact ⟨none, 0, rfl, Nat.le_refl _, Nat.zero_le _⟩
  · exact ⟨_, cap, rfl, h1, h2⟩
theorem Sl.news {A : Option Addr} {cap : Nat} (h : Sl w B e sz (.slice A n cap) n xs) : (A = none → n = 0 ∧ cap = 0) ∧ ∀ ad, A = some ad → ∀ j u, xs[j]? = some u → w.cell? (ad.add j) = some u := by
  rcases h.2 with ⟨h0, h1⟩ | ⟨b', off', cap', cur, he, hB, hg, _, _, _, hc⟩
  · cases h0
    exact ⟨fun _ => ⟨rfl, rfl⟩, fun ad had => by simp at had⟩
  · cases he
    refine ⟨fun h0 => by simp at h0, ?_⟩
    intro ad had j u hu
    simp only [Option.some.injEq] at had
    subst had
    rw [addr_add, row_cell hg]
    exact hc j u hu
/-- the first element struck -/
theorem Sl.tail {b off cap : Nat} (h : Sl w B e sz (.slice (some ⟨b, off, none⟩) (n + 1) cap) (n + 1) xs) :
    Sl w B e sz (.slice (if cap = 1 then some ⟨b, off, none⟩ else some ⟨b, off + sz, none⟩) n (cap - 1)) n (xs.drop sz) := by
  rcases h.2 with ⟨h0, _⟩ | ⟨b', off', cap', cur, he, hB, hg, h1, h2, h3, hc⟩
  · cases h0
  · cases he
    refine ⟨by rw [List.length_drop, h.1, Nat.add_mul]; omega, .inr ?_⟩
    by_cases hz : cap = 1
    · refine ⟨b, off, cap - 1, cur, by rw [if_pos hz], hB, hg, by omega, by omega, ?_, fun j u hu => ?_⟩
      · subst hz; simp at h3 ⊢; omega
      · have hn : n = 0 := by omega
        subst hn
        have : (xs.drop sz).length = 0 := by rw [List.length_drop, h.1]; omega
        rw [List.eq_nil_of_length_eq_zero this] at hu
        simp at hu
    · refine ⟨b, off + sz, cap - 1, cur, by rw [if_neg hz], hB, hg, by omega, by omega, ?_, fun j u hu => ?_⟩
      · have : off + sz + (cap - 1) * sz = off + cap * sz := by
          obtain ⟨c, rfl⟩ : ∃ c, cap = c + 1 := ⟨cap - 1, by omega⟩
          rw [Nat.add_sub_cancel, Nat.add_mul, Nat.one_mul]; omega
        omega
      · rw [List.getElem?_drop] at hu
        rw [Nat.add_assoc]
        exact hc _ _ hu
end

/-- element i taken out, as slices.Delete does it -/
theorem Sl.del {w : World} {B : Nat} {e : TypeId} {sz n b off cap i : Nat} {xs zl : List Value} (h : Sl w B e sz (.slice (some ⟨b, off, none⟩) n cap) n xs) (hi : i < n) (hz : zl.length = sz) :
    Sl ((w.drew.setCells b (off + i * sz) (xs.drop ((i + 1) * sz))).setCells b (off + (n - 1) * sz) zl) B e sz (.slice (some ⟨b, off, none⟩) (n - 1) cap) (n - 1) (xs.take (i * sz) ++ xs.drop ((i + 1) * sz)) ∧
    w.grownBy ((w.drew.setCells b (off + i * sz) (xs.drop ((i + 1) * sz))).setCells b (off + (n - 1) * sz) zl) (some b) := by
  obtain ⟨m, rfl⟩ : ∃ m, n = i + 1 + m := ⟨n - (i + 1), by omega⟩
  have hn1 : i + 1 + m - 1 = i + m := by omega
  rw [hn1]
  refine ⟨?_, ?_⟩
  · rcases h.2 with ⟨h0, _⟩ | ⟨b', off', cap', cur, he, hB, hg, h1, h2, h3, hc⟩
    · cases h0
    · cases he
      have hl : xs.length = (i + 1) * sz + m * sz := by rw [h.1, Nat.add_mul]
      have e1 : (i + 1) * sz = i * sz + sz := by rw [Nat.add_mul, Nat.one_mul]
      have e2 : (i + m) * sz = i * sz + m * sz := Nat.add_mul _ _ _
      have e3 : (i + 1 + m) * sz ≤ cap * sz := Nat.mul_le_mul_right _ h1
      rw [Nat.add_mul, e1] at e3
      refine ⟨by rw [List.length_append, List.length_take, List.length_drop]; omega, .inr ⟨b, off, cap, _, rfl, hB, setCells_heap _ _ _ _ (setCells_heap _ _ _ _ (show w.drew.heap[b]? = _ from hg)), by omega, h2, by rw [overl_size, overl_size]; exact h3, fun j u hu => ?_⟩⟩
      have hju : j < (i + m) * sz := by
        have := (List.getElem?_eq_some_iff.1 hu).1
        rw [List.length_append, List.length_take, List.length_drop] at this
        omega
      rw [overl_out _ _ _ _ (.inl (by omega))]
      by_cases hj : j < i * sz
      · rw [overl_out _ _ _ _ (.inl (by omega))]
        rw [List.getElem?_append_left (by rw [List.length_take]; omega), List.getElem?_take, if_pos hj] at hu
        exact hc j u hu
      · rw [List.getElem?_append_right (by rw [List.length_take]; omega), List.length_take, show min (i * sz) xs.length = i * sz by omega] at hu
        rw [show off + j = off + i * sz + (j - i * sz) by omega, overl_in _ _ _ _ (by rw [List.length_drop]; omega) (by rw [List.length_drop]; omega)]
        exact hu
  · have g1 : w.grownBy w.drew (some b) := ⟨rfl, rfl, rfl, Nat.le_refl _, fun _ _ _ => rfl⟩
    have g2 := setCells_grown b (xs.drop ((i + 1) * sz)) (off + i * sz) w.drew
    have g3 := setCells_grown b zl (off + (i + m) * sz) (w.drew.setCells b (off + i * sz) (xs.drop ((i + 1) * sz)))
    exact g1.andThen' (g2.andThen' g3)

/-- one cell stored -/
theorem Sl.store {w : World} {B : Nat} {e : TypeId} {sz n b off cap j : Nat} {xs : List Value} (h : Sl w B e sz (.slice (some ⟨b, off, none⟩) n cap) n xs) (u : Value) : Sl (w.setCell ⟨b, off + j, none⟩ u) B e sz (.slice (some ⟨b, off, none⟩) n cap) n (xs.set j u) := by
  rcases h.2 with ⟨h0, _⟩ | ⟨b', off', cap', cur, he, hB, hg, h1, h2, h3, hc⟩
  · cases h0
  · cases he
    refine ⟨by simpa using h.1, .inr ⟨b, off, cap, _, rfl, hB, setCell_heap hg _ _, h1, h2, by simpa using h3, fun i v hv => ?_⟩⟩
    by_cases hij : j = i
    · subst hij
      have hl : j < xs.length := by simpa using (List.getElem?_eq_some_iff.1 hv).1
      rw [List.getElem?_set_self (by simpa using hl)] at hv
      have hlt : off + j < cur.size := by
        have := hc j xs[j] (List.getElem?_eq_getElem hl)
        exact (Array.getElem?_eq_some_iff.1 this).1
      rw [Array.getElem?_setIfInBounds_self_of_lt hlt]
      exact hv
    · rw [List.getElem?_set_ne hij] at hv
      rw [Array.getElem?_setIfInBounds_ne (by omega)]
      exact hc i v hv
/-- a row just made -/
theorem Sl.made (w : World) {B : Nat} (e : TypeId) (sz n : Nat) (C : Array Value) (hB : B ≤ w.heap.size) (hn : n ≤ maxLen) (hs : C.size = n * sz) : Sl (w.alloc (.cells C e)) B e sz (.slice (some ⟨w.heap.size, 0, none⟩) n n) n C.toList :=
  ⟨by simpa using hs, .inr ⟨w.heap.size, 0, n, C, rfl, hB, heap_alloc_new w _, Nat.le_refl _, hn, by omega, fun j u hu => by simpa using hu⟩⟩

section
variable {P : Program} (w : World)
theorem run_append_sl {B : Nat} (t ty e : TypeId) (i : TypeInfo) (z : Value) (size bytes : Nat) (ht : P.underlying t = some (.slice e)) (hi : P.info? e = some i) (hz : i.zero = some z)
    (hsize : i.size = size) (hby : i.bytes = bytes) (hzs : z.cells.size = size) (hsz : 0 < size)
    (v : Value) (n : Nat) (xs : List Value) (h : Sl w B e size v n xs)
    (ao : Option Addr) (m c : Nat) (news : List Value) (hnone : ao = none → m = 0 ∧ c = 0) (hl : news.length = m * size) (hnews : ∀ a, ao = some a → ∀ j u, news[j]? = some u → w.cell? (a.add j) = some u) (h1 : ∀ u ∈ news, u.oneCell' = true)
    (h63 : n + m ≤ maxLen) (hbytes : (n + m) * bytes ≤ 140737488355328) (hbase : B ≤ w.heap.size) :
    ∃ v' w', (Builtin.append_ #[t, t] ty #[v, .slice ao m c]).run P w = .ok v' w' ∧ Sl w' B e size v' (n + m) (xs ++ news) ∧ w.grownBy w' v.ownBlock ∧ ∀ k, v'.ownBlock = some k → v.ownBlock = some k ∨ w.heap.size ≤ k := by
  have hlen : (xs ++ news).length = (n + m) * size := by rw [List.length_append, h.1, hl, Nat.add_mul]
  cases ao with
  | none =>
    obtain ⟨rfl, rfl⟩ := hnone rfl
    have hn0 : news = [] := List.eq_nil_of_length_eq_zero (by simpa using hl)
    subst hn0
    refine ⟨v, w, ?_, by simpa using h, ⟨rfl, rfl, rfl, Nat.le_refl _, fun _ _ _ => rfl⟩, fun k hk => .inl hk⟩
    rcases h.2 with ⟨rfl, rfl⟩ | ⟨b, off, cap, cur, rfl, hbg, hg, hnc, hcm, hfit, hcs⟩
    · simp [Builtin.append_, run_underlying ht, sizeOf, typeInfo, hi, Builtin.lenOf, Builtin.firstCells]
    · simp [Builtin.append_, run_underlying ht, sizeOf, typeInfo, hi, Builtin.lenOf, Builtin.firstCells, hnc, storeCells]
  | some a =>
  replace hnews := hnews a rfl
  rcases h.2 with ⟨rfl, rfl⟩ | ⟨b, off, cap, cur, rfl, hbg, hg, hnc, hcm, hfit, hcs⟩
  · have hx : xs = [] := List.eq_nil_of_length_eq_zero (by simpa using h.1)
    subst hx
    obtain ⟨v', w', hr, hown, hgr, _⟩ := run_append_own (P := P) w w.heap.size t ty e i z size bytes ht hi hz hsize hby hzs hsz (.slice none 0 0) 0 [] (World.ownsRow_nil _ _ _ _) a m c news hl hnews h1 h63 hbytes (Nat.le_refl _)
    exact ⟨v', w', hr, (Sl.of_own hown).mono hbase, hgr, fun k hk => .inr ((Sl.of_own hown).ge k hk)⟩
  · have hcell : ∀ j u, xs[j]? = some u → w.cell? ⟨b, off + j, none⟩ = some u := fun j u hu => by rw [row_cell hg]; exact hcs j u hu
    by_cases hroom : n + m ≤ cap
    · subst hsize
      have hle : (n + m) * i.size ≤ cap * i.size := Nat.mul_le_mul_right _ hroom
      rw [Nat.add_mul] at hle
      have hr := run_append_room_cells (P := P) w t ty e i ht hi b off n cap a m c news hl hnews h1 hroom
        (fun j hj => by rw [row_cell hg, Array.getElem?_eq_getElem (by omega)]; rfl) (fun j _ => row_froz hg _)
      refine ⟨_, _, hr, ⟨hlen, .inr ⟨b, off, cap, _, rfl, hbg, setCells_heap _ _ _ _ hg, hroom, hcm, by rw [overl_size]; exact hfit, fun j u hu => ?_⟩⟩, setCells_grown _ _ _ _, fun k hk => .inl hk⟩
      by_cases hj : j < n * i.size
      · rw [overl_out _ _ _ _ (by omega)]
        rw [List.getElem?_append_left (by rw [h.1]; exact hj)] at hu
        exact hcs j u hu
      · rw [List.getElem?_append_right (by rw [h.1]; omega), h.1] at hu
        have hjl : j - n * i.size < news.length := (List.getElem?_eq_some_iff.1 hu).1
        rw [show off + j = off + n * i.size + (j - n * i.size) by omega, overl_in _ _ _ _ hjl (by omega)]
        exact hu
    · obtain ⟨v', w', hr, hown, hgr⟩ := run_append_arg_grows (P := P) w t ty e i z size bytes ht hi hz hsize hby hzs hsz ⟨b, off, none⟩ n cap xs h.1 (fun j u hu => by rw [addr_add]; exact hcell j u hu) a m c news hl hnews (by omega) h63 hbytes
      exact ⟨v', w', hr, (Sl.of_own hown).mono hbase, ⟨hgr.os, hgr.tape, hgr.output, hgr.size, fun k hk _ => hgr.block k hk (by simp)⟩, fun k hk => .inr ((Sl.of_own hown).ge k hk)⟩

variable {ops : Array Oper} {rest : List Oper} {o : Oper} {a : Act} {Q : Exit → Act → World → Prop}
theorem wpList_append_sl (hgd : o.guard = none) (s x : Operand) (t : TypeId)
    (ho : o.op = .call { callee := .builtin .append, args := #[s, x], argTypes := #[t, t] })
    {B : Nat} (e : TypeId) (i : TypeInfo) (z : Value) (size bytes : Nat) (ht : P.underlying t = some (.slice e)) (hi : P.info? e = some i) (hz : i.zero = some z)
    (hsize : i.size = size) (hby : i.bytes = bytes) (hzs : z.cells.size = size) (hsz : 0 < size)
    {v : Value} {n : Nat} {xs : List Value} (hs : a.eval s = v) (h : Sl w B e size v n xs)
    (ao : Option Addr) (m c : Nat) (news : List Value) (hx : a.eval x = .slice ao m c) (hnone : ao = none → m = 0 ∧ c = 0) (hl : news.length = m * size) (hnews : ∀ ad, ao = some ad → ∀ j u, news[j]? = some u → w.cell? (ad.add j) = some u) (h1 : ∀ u ∈ news, u.oneCell' = true)
    (h63 : n + m ≤ maxLen) (hbytes : (n + m) * bytes ≤ 140737488355328) (hbase : B ≤ w.heap.size)
    (hK : ∀ v' w', Sl w' B e size v' (n + m) (xs ++ news) → w.grownBy w' v.ownBlock → (∀ k, v'.ownBlock = some k → v.ownBlock = some k ∨ w.heap.size ≤ k) → wpList P ops Q rest (a.put o.dst v') w') : wpList P ops Q (o :: rest) a w := by
  refine wpList_plain hgd fun K hK' => ?_
  obtain ⟨v', w', hr, h2, h3, h4⟩ := run_append_sl (P := P) w t o.type e i z size bytes ht hi hz hsize hby hzs hsz v n xs h ao m c news hnone hl hnews h1 h63 hbytes hbase
  unfold Oper.wp execOp
  simp only [ho, resolve, invoke, builtin, Sem.run_bind, Sem.run_pure, Result.andThen_ok, List.map_toArray, List.map_cons, List.map_nil, hs, hx, hr]
  exact hK' _ _ (hK v' w' h2 h3 h4)

/-- clear(s), of elements of whatever size -/
theorem run_clear_sl (t e ty : TypeId) (z : Value) (zs : List Value) (ht : P.underlying t = some (.slice e)) (hv : ∀ w, (zeroValue e).run P w = .ok z w) (b o n c : Nat) (hn : 0 < n) (hz : (Builtin.zeroCells z.cells n).toList = zs) (h1 : ∀ u ∈ zs, u.oneCell' = true)
    (hc : ∀ j, j < zs.length → (w.cell? ⟨b, o + j, none⟩).isSome = true) (hf : ∀ j, j < zs.length → w.frozen? ⟨b, o + j, none⟩ = false) :
    (Builtin.clear_ #[t] ty #[.slice (some ⟨b, o, none⟩) n c]).run P w = .ok (.tuple #[]) (w.setCells b o zs) := by
  have hst := run_storeCells_cells (P := P) b o zs 0 w (by simpa using hc) (by simpa using hf) h1
  simp only [Nat.add_zero] at hst
  obtain ⟨m, rfl⟩ : ∃ m, n = m + 1 := ⟨n - 1, by omega⟩
  simp [Builtin.clear_, run_underlying ht, hv, hz, hst]
end

/-- append, as one step of a region that draws -/
theorem step_append_sl {P : Program} {ops : Array Oper} {o : Oper} {a : Act} {w : World} {K : Act → World → Prop} {Q : Exit → Act → World → Prop} {E : Prop}
    (hg : o.guard = none) (s x : Operand) (t : TypeId) (hop : o.op = Op.call { callee := Callee.builtin Builtin.append, args := #[s, x], argTypes := #[t, t] })
    {B : Nat} (e : TypeId) (i : TypeInfo) (z : Value) (size bytes : Nat) (ht : P.underlying t = some (.slice e)) (hi : P.info? e = some i) (hz : i.zero = some z)
    (hsize : i.size = size) (hby : i.bytes = bytes) (hzs : z.cells.size = size) (hsz : 0 < size)
    {v : Value} {n : Nat} {xs : List Value} (hs : a.eval s = v) (h : Sl w B e size v n xs)
    (ao : Option Addr) (m c : Nat) (news : List Value) (hx : a.eval x = .slice ao m c) (hnone : ao = none → m = 0 ∧ c = 0) (hl : news.length = m * size) (hnews : ∀ ad, ao = some ad → ∀ j u, news[j]? = some u → w.cell? (ad.add j) = some u) (h1 : ∀ u ∈ news, u.oneCell' = true)
    (h63 : n + m ≤ maxLen) (hbytes : (n + m) * bytes ≤ 140737488355328) (hbase : B ≤ w.heap.size)
    (hK : ∀ v' w', Sl w' B e size v' (n + m) (xs ++ news) → w.grownBy w' v.ownBlock → (∀ k, v'.ownBlock = some k → v.ownBlock = some k ∨ w.heap.size ≤ k) → K (a.put o.dst v') w') :
    if Region.wanted o (yielded ops a.tmps) = true then Oper.wp P o a w K Q else E := by
  have hw : Region.wanted o (yielded ops a.tmps) = true := by simp [Region.wanted, hg]
  rw [if_pos hw]
  obtain ⟨v', w', hr, h2, h3, h4⟩ := run_append_sl (P := P) w t o.type e i z size bytes ht hi hz hsize hby hzs hsz v n xs h ao m c news hnone hl hnews h1 h63 hbytes hbase
  unfold Oper.wp execOp
  simp only [hop, resolve, invoke, builtin, Sem.run_bind, Sem.run_pure, Result.andThen_ok, List.map_toArray, List.map_cons, List.map_nil, hs, hx, hr]
  exact hK v' w' h2 h3 h4
end Go.Proofs.YtokhnbdhcehonaaGreat
