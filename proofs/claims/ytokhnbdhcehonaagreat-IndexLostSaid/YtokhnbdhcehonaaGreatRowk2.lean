/- index: append, copy and clear on lists of rows. -/
import Derived.Test.YtokhnbdhcehonaaGreatRowk
import Derived.Lib.AppendZeros
import Derived.Lib.Overlaps
import Derived.Laws.Externs
import Derived.Shelf.Abstract
set_option linter.unusedSimpArgs false
set_option linter.unusedVariables false
namespace Go.Proofs.YtokhnbdhcehonaaGreat
open Go Go.RowKit Row
set_option maxRecDepth 100000
set_option linter.unusedSectionVars false
/-- cells stored over a slice's -/
theorem Sl.blit {w : World} {B : Nat} {e : TypeId} {sz m b off cap : Nat} {xs : List Value} (h : Sl w B e sz (.slice (some ⟨b, off, none⟩) m cap) m xs) {o : Nat} {cs : List Value} (ho : o + cs.length ≤ xs.length) :
    Sl (w.setCells b (off + o) cs) B e sz (.slice (some ⟨b, off, none⟩) m cap) m (xs.take o ++ cs ++ xs.drop (o + cs.length)) := by
  obtain ⟨hl, h2⟩ := h
  rcases h2 with ⟨h0, _⟩ | ⟨b', off', cap', cur, he, hB, hg, h1, h2, h3, hc⟩
  · cases h0
  · cases he
    have e3 : m * sz ≤ cap * sz := Nat.mul_le_mul_right _ h1
    refine ⟨by rw [List.length_append, List.length_append, List.length_take, List.length_drop]; omega, .inr ⟨b, off, cap, _, rfl, hB, setCells_heap _ _ _ _ hg, h1, h2, by rw [overl_size]; exact h3, fun i u hu => ?_⟩⟩
    rw [List.append_assoc] at hu
    by_cases hi1 : i < o
    · rw [List.getElem?_append_left (by rw [List.length_take]; omega), List.getElem?_take, if_pos hi1] at hu
      rw [overl_out _ _ _ _ (.inl (by omega))]
      exact hc i u hu
    · rw [List.getElem?_append_right (by rw [List.length_take]; omega), List.length_take, show min o xs.length = o by omega] at hu
      by_cases hi2 : i < o + cs.length
      · rw [List.getElem?_append_left (by omega)] at hu
        rw [show off + i = off + o + (i - o) by omega, overl_in _ _ _ _ (by omega) (by omega)]
        exact hu
      · rw [List.getElem?_append_right (by omega), List.getElem?_drop, show o + cs.length + (i - o - cs.length) = i by omega] at hu
        rw [overl_out _ _ _ _ (.inr (by omega))]
        exact hc i u hu
theorem Sl.room {w : World} {B : Nat} {e : TypeId} {sz m b off cap : Nat} {xs : List Value} (h : Sl w B e sz (.slice (some ⟨b, off, none⟩) m cap) m xs) {j : Nat} (hj : j < cap * sz) : (w.cell? ⟨b, off + j, none⟩).isSome = true := by
  obtain ⟨hl, h2⟩ := h
  rcases h2 with ⟨h0, _⟩ | ⟨b', off', cap', cur, he, hB, hg, h1, h2, h3, hc⟩
  · cases h0
  · cases he
    rw [row_cell hg, Array.getElem?_eq_getElem (by omega)]
    rfl
/-- a slice cut behind its first elements -/
theorem Sl.cut {w : World} {B : Nat} {e : TypeId} {sz m b off cap i : Nat} {xs : List Value} (h : Sl w B e sz (.slice (some ⟨b, off, none⟩) m cap) m xs) (hi : i ≤ m) : Sl w B e sz (.slice (some ⟨b, off, none⟩) i cap) i (xs.take (i * sz)) := by
  obtain ⟨hl, h2⟩ := h
  have e1 : i * sz ≤ m * sz := Nat.mul_le_mul_right _ hi
  rcases h2 with ⟨h0, _⟩ | ⟨b', off', cap', cur, he, hB, hg, h1, h2, h3, hc⟩
  · cases h0
  · cases he
    refine ⟨by rw [List.length_take]; omega, .inr ⟨b, off, cap, cur, rfl, hB, hg, by omega, h2, h3, fun j u hu => ?_⟩⟩
    rw [List.getElem?_take] at hu
    split at hu
    · exact hc j u hu
    · cases hu
/-- a slice let out to more of its room; what stands there, whatever it be -/
theorem Sl.out {w : World} {B : Nat} {e : TypeId} {sz m b off cap k : Nat} {xs : List Value} (h : Sl w B e sz (.slice (some ⟨b, off, none⟩) m cap) m xs) (hk : m ≤ k) (hkc : k ≤ cap) : ∃ ys : List Value, ys.length = (k - m) * sz ∧ Sl w B e sz (.slice (some ⟨b, off, none⟩) k cap) k (xs ++ ys) := by
  obtain ⟨hl, h2⟩ := h
  rcases h2 with ⟨h0, _⟩ | ⟨b', off', cap', cur, he, hB, hg, h1, h2, h3, hc⟩
  · cases h0
  · cases he
    have e1 : k * sz ≤ cap * sz := Nat.mul_le_mul_right _ hkc
    have e2 : m * sz + (k - m) * sz = k * sz := by rw [← Nat.add_mul]; congr 1; omega
    have hlen : ((cur.toList.drop (off + m * sz)).take ((k - m) * sz)).length = (k - m) * sz := by
      rw [List.length_take, List.length_drop, Array.length_toList]; omega
    refine ⟨(cur.toList.drop (off + m * sz)).take ((k - m) * sz), hlen, by rw [List.length_append, hl, hlen, e2], .inr ⟨b, off, cap, cur, rfl, hB, hg, hkc, h2, h3, fun j u hu => ?_⟩⟩
    by_cases hj : j < m * sz
    · rw [List.getElem?_append_left (by omega)] at hu
      exact hc j u hu
    · rw [List.getElem?_append_right (by omega), hl, List.getElem?_take] at hu
      split at hu
      · rw [List.getElem?_drop, show off + m * sz + (j - m * sz) = off + j by omega] at hu
        simpa using hu
      · cases hu
section
variable {P : Program} (w : World)
theorem run_copy_sz (dT sT ty elem : TypeId) (sz b o dLen dCap : Nat) (a : Addr) (sLen sCap : Nat) (cs : List Value)
    (hu : P.underlying dT = some (.slice elem)) (hs : (P.info? elem).map (·.size) = some sz) (hn : cs.length = Nat.min sLen dLen * sz)
    (hsrc : ∀ j v, cs[j]? = some v → w.cell? (a.add j) = some v) (hc : ∀ j, j < cs.length → (w.cell? ⟨b, o + j, none⟩).isSome = true) (hf : ∀ j, j < cs.length → w.frozen? ⟨b, o + j, none⟩ = false) (h1 : ∀ v ∈ cs, v.oneCell' = true) :
    (Builtin.copy_ #[dT, sT] ty #[.slice (some ⟨b, o, none⟩) dLen dCap, .slice (some a) sLen sCap]).run P w = .ok (goInt (Nat.min sLen dLen)) (w.setCells b o cs) := by
  have hl := run_firstCells_some (P := P) w sz (Nat.min sLen dLen) a sLen sCap cs hn hsrc
  have hst := run_storeCells_cells (P := P) b o cs 0 w (by simpa using hc) (by simpa using hf) h1
  cases hq : P.info? elem with
  | none => simp [hq] at hs
  | some i =>
    have hi : i.size = sz := by simpa [hq] using hs
    simp [Builtin.copy_, run_underlying hu, Builtin.lenOf, sizeOf, typeInfo, hq, hi, hl, hst]
theorem run_append_made (t tn ty e : TypeId) (i : TypeInfo) (z : Value) (k kn : IntKind) (ht : P.underlying t = some (.slice e)) (htn : P.underlying tn = some (.int kn)) (hi : P.info? e = some i) (hz : i.zero = some z)
    (b : Addr) (len cap : Nat) (cs : List Value) (hcs : cs.length = len * i.size) (hsrc : ∀ j v, cs[j]? = some v → w.cell? (b.add j) = some v)
    (n : Nat) (h0 : 0 < n) (hs : 0 < i.size) (hgrow : cap < len + n) (h63 : len + n ≤ 1000000) (hby : i.bytes ≤ 1000) :
    (Builtin.append_ #[t, tn] ty #[.slice (some b) len cap, .int k n]).run P w =
      .ok (.slice (some ⟨w.heap.size, 0, none⟩) (len + n) (grownCap w (len + n) cap e)) (w.drew.alloc (.cells (cs.toArray ++ Builtin.zeroCells z.cells n ++ Builtin.zeroCells z.cells (grownCap w (len + n) cap e - (len + n))) e)) := by
  have hn : n ≠ 0 := by omega
  have hw : IntKind.i64.wrap (n : Int) = n := by rw [IntKind.wrap_i64]; omega
  have hb : (len + n) * i.bytes ≤ 140737488355328 := Nat.le_trans (Nat.mul_le_mul h63 hby) (by decide)
  have h48' : ¬ (281474976710656 < Builtin.nextslicecap (len + n) cap * i.bytes) := Nat.not_lt.2 (growslice_fits hgrow hb)
  have hnb : n * i.bytes ≤ (len + n) * i.bytes := Nat.mul_le_mul_right _ (by omega)
  have h48i : ¬ (281474976710656 < (n : Int) * (i.bytes : Int)) := by
    rw [← Int.natCast_mul]
    omega
  have hneg : ¬ ((n : Int) < 0) := by omega
  have hns : ¬ (n * i.size = 0) := Nat.mul_ne_zero hn (by omega)
  have hroom : ¬ (len + n ≤ cap) := by omega
  have h63' : ¬ (9223372036854775807 < ((len : Int) + (n : Int))) := by omega
  have hfc := run_firstCells_some (P := P) w.drew i.size len b len cap cs hcs hsrc
  simp [Builtin.append_, run_underlying ht, run_underlying htn, sizeOf, typeInfo, zeroValue, hi, hz, asInt, asIntOf, hw, hn, hneg, hns, h63', h48', h48i, hroom, Question.forced, hfc, newRow, grownCap]
end
section
variable {α : Type} [Row α] [RowT α] [RowS α]
variable {w w' : World} {B : Nat} {v : Value} {l : List α}
variable {ops : Array Oper} {rest : List Oper} {o : Oper} {a : Act} {Q : Exit → Act → World → Prop}
theorem rw_append (hgd : o.guard = none) (s x : Operand) (ho : o.op = .call { callee := .builtin .append, args := #[s, x], argTypes := #[RowS.S α, RowS.S α] })
    (hs : a.eval s = v) (h : Rs w B v l) {vx : Value} {B' : Nat} {m : List α} (hx : a.eval x = vx) (hm : Rs w B' vx m) (hlm : l.length + m.length ≤ 1000000) (hbase : B ≤ w.heap.size)
    (hK : ∀ v' w', Rs w' B v' (l ++ m) → w.grownBy w' v.ownBlock → (∀ k, v'.ownBlock = some k → v.ownBlock = some k ∨ w.heap.size ≤ k) → wpList Tryz.prog ops Q rest (a.put o.dst v') w') : wpList Tryz.prog ops Q (o :: rest) a w := by
  obtain ⟨A, cap, rfl, hlc, hcap⟩ := hm.any
  obtain ⟨i, hi, hz, hn, hby⟩ := RowT.info (α := α)
  obtain ⟨hn0, hnews⟩ := Sl.news hm
  refine wpList_append_sl w hgd s x (RowS.S α) ho (RowT.T α) i (.agg (arr (RowT.z : α))) (n α) (RowT.bytes α) RowS.hS hi hz hn hby (arr_size _) Row.pos hs h A m.length cap (enc m) hx hn0 (enc_len m) hnews (enc_one m) (by have : maxLen = 9223372036854775807 := rfl; omega) (Nat.le_trans (Nat.mul_le_mul hlm RowT.hby) (by decide)) hbase ?_
  intro v' w' h1 h2 h3
  refine hK v' w' ?_ h2 h3
  unfold Rs
  rw [List.length_append, enc_append]
  exact h1
theorem Rs.ge (h : Rs w B v l) : ∀ k, v.ownBlock = some k → B ≤ k := Sl.ge h
theorem Rs.nilled {m cap : Nat} (h : Rs w B (.slice none m cap) l) : l = [] ∧ m = 0 ∧ cap = 0 := by
  rcases h.2 with ⟨h0, h1⟩ | ⟨b, off, cap', cur, he, _⟩
  · cases h0
    exact ⟨List.eq_nil_of_length_eq_zero h1, rfl, rfl⟩
  · cases he
theorem Rs.empty (w : World) {B : Nat} (hB : B ≤ w.heap.size) : Rs (w.alloc (.cells #[] (RowT.T α))) B (.slice (some ⟨w.heap.size, 0, none⟩) 0 0) ([] : List α) := Sl.made w (RowT.T α) (n α) 0 #[] hB (Nat.zero_le _) (by simp)
/-- a predicate as a function value: what it answers in every world that comes of w by turning blocks from B on alone -/
structure PB (B : Nat) (w : World) (g : Nat) (lb : Array Value) (p : α → Bool) : Prop where
  eg : ∀ args w, (callFunc g args).run Tryz.prog w = .ok (.enter g args) w
  says : ∀ (W : World) (x : α), Below B w W → Calls Tryz.prog g (#[.agg (arr x)] ++ lb) W fun e w' => e = .returned (.bool (p x)) ∧ Below W.heap.size W w'
theorem PB.on {g : Nat} {lb : Array Value} {p : α → Bool} (h : PB B w g lb p) {W : World} (hb : Below B w W) : PB B W g lb p := ⟨h.eg, fun W' x hb' => h.says W' x (hb.trans hb')⟩
theorem PB.mono {g : Nat} {lb : Array Value} {p : α → Bool} (h : PB B w g lb p) {B' : Nat} (hB : B ≤ B') : PB B' w g lb p := ⟨h.eg, fun W' x hb' => h.says W' x (hb'.mono hB)⟩
theorem zeros_one (k : Nat) : ∀ u ∈ (Builtin.zeroCells (arr (RowT.z : α)) k).toList, u.oneCell' = true := by
  intro u hu
  unfold Builtin.zeroCells at hu
  simp only [Array.toList_map, List.mem_map] at hu
  obtain ⟨j, _, rfl⟩ := hu
  have hs : 0 < (arr (RowT.z : α)).size := by rw [arr_size]; exact Row.pos
  have hj : j % (arr (RowT.z : α)).size < (arr (RowT.z : α)).size := Nat.mod_lt _ hs
  rw [getElem!_pos (arr (RowT.z : α)) (j % (arr (RowT.z : α)).size) hj]
  exact one (RowT.z : α) _ (by simp)
theorem rw_clear (hgd : o.guard = none) (s : Operand) (ho : o.op = .call { callee := .builtin .clear, args := #[s], argTypes := #[RowS.S α] }) {b off cap i c' : Nat} (h : Rs w B (.slice (some ⟨b, off, none⟩) l.length cap) l) (hi : i < l.length)
    (hs : a.eval s = .slice (some ⟨b, off + i * n α, none⟩) (l.length - i) c')
    (hK : ∀ w', Rs w' B (.slice (some ⟨b, off, none⟩) i cap) (l.take i) → w.grownBy w' (some b) → w'.heap.size = w.heap.size → wpList Tryz.prog ops Q rest (a.put o.dst (.tuple #[])) w') : wpList Tryz.prog ops Q (o :: rest) a w := by
  refine wpList_plain hgd fun K hK' => ?_
  have hzl : (Builtin.zeroCells (arr (RowT.z : α)) (l.length - i)).toList.length = (l.length - i) * n α := by
    rw [Array.length_toList, size_zeroCells, arr_size]
  have e1 : i * n α + (l.length - i) * n α = l.length * n α := by rw [← Nat.add_mul]; congr 1; omega
  have hle : l.length * n α ≤ cap * n α := by
    rcases h.2 with ⟨h0, _⟩ | ⟨_, _, _, _, he, _, _, h1, _⟩
    · cases h0
    · cases he; exact Nat.mul_le_mul_right _ h1
  have hr := run_clear_sl (P := Tryz.prog) w (RowS.S α) (RowT.T α) o.type (.agg (arr (RowT.z : α))) _ RowS.hS RowT.hzero b (off + i * n α) (l.length - i) c' (by omega) rfl (zeros_one _)
    (fun j hj => by rw [Nat.add_assoc]; exact Sl.room h (by rw [show Value.cells (.agg (arr (RowT.z : α))) = arr (RowT.z : α) from rfl, hzl] at hj; omega)) (fun j _ => Sl.froz h _)
  unfold Oper.wp execOp
  simp only [ho, resolve, invoke, builtin, Sem.run_bind, Sem.run_pure, Result.andThen_ok, List.map_toArray, List.map_cons, List.map_nil, hs, hr]
  refine hK' _ _ (hK _ ?_ (setCells_grown _ _ _ _) (setCells_size _ _ _ _))
  have h1 := Sl.cut (Sl.blit h (o := i * n α) (cs := (Builtin.zeroCells (arr (RowT.z : α)) (l.length - i)).toList) (by rw [hzl, enc_len]; omega)) (i := i) (by omega)
  unfold Rs
  rw [List.length_take, Nat.min_eq_left (by omega), enc_take]
  rw [List.append_assoc, List.take_append_of_le_length (by rw [List.length_take, enc_len]; omega), List.take_take, Nat.min_self] at h1
  exact h1
end
end Go.Proofs.YtokhnbdhcehonaaGreat
