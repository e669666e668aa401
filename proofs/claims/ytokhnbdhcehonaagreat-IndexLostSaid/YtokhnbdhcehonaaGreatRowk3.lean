/- index: copy; an append of made elements; overlaps: for slices.Insert. -/
import Derived.Test.YtokhnbdhcehonaaGreatRowk2
import Derived.Great.BuildSlice
set_option linter.unusedSimpArgs false
set_option linter.unusedVariables false
namespace Go.Proofs.YtokhnbdhcehonaaGreat
open Go Go.RowKit Row
set_option maxRecDepth 100000
set_option linter.unusedSectionVars false
section
variable {α : Type} [Row α] [RowT α] [RowS α]
variable {w w' : World} {B : Nat} {v : Value} {l : List α}
variable {ops : Array Oper} {rest : List Oper} {o : Oper} {a : Act} {Q : Exit → Act → World → Prop}
theorem Sl.frozen {e : TypeId} {sz m b off cap : Nat} {xs : List Value} (h : Sl w B e sz (.slice (some ⟨b, off, none⟩) m cap) m xs) (j : Nat) : w.frozen? ⟨b, j, none⟩ = false := Sl.froz h j
theorem run_copy_rs {m k b off cap : Nat} {xs : List Value} (h : Sl w B (RowT.T α) (n α) (.slice (some ⟨b, off, none⟩) m cap) m xs) (ms : List α) (sa : Addr) (sLen sc dc : Nat) (ty : TypeId) (hk : k + ms.length ≤ m) (hmin : Nat.min sLen (m - k) = ms.length)
    (hsrc : ∀ j v, (enc ms)[j]? = some v → w.cell? (sa.add j) = some v) :
    (Builtin.copy_ #[RowS.S α, RowS.S α] ty #[.slice (some ⟨b, off + k * n α, none⟩) (m - k) dc, .slice (some sa) sLen sc]).run Tryz.prog w = .ok (goInt ms.length) (w.setCells b (off + k * n α) (enc ms)) ∧
    Sl (w.setCells b (off + k * n α) (enc ms)) B (RowT.T α) (n α) (.slice (some ⟨b, off, none⟩) m cap) m (xs.take (k * n α) ++ enc ms ++ xs.drop ((k + ms.length) * n α)) := by
  have hle : m ≤ cap := by
    rcases h.2 with ⟨h0, _⟩ | ⟨_, _, _, _, he, _, _, h1, _⟩
    · cases h0
    · cases he; exact h1
  have e1 : (k + ms.length) * n α ≤ m * n α := Nat.mul_le_mul_right _ hk
  have e2 : m * n α ≤ cap * n α := Nat.mul_le_mul_right _ hle
  have e3 : (k + ms.length) * n α = k * n α + ms.length * n α := Nat.add_mul _ _ _
  refine ⟨?_, ?_⟩
  · have := run_copy_sz (P := Tryz.prog) w (RowS.S α) (RowS.S α) ty (RowT.T α) (n α) b (off + k * n α) (m - k) dc sa sLen sc (enc ms) RowS.hS size_T (by rw [hmin, enc_len]) hsrc
      (fun j hj => by rw [Nat.add_assoc]; exact Sl.room h (by rw [enc_len] at hj; omega)) (fun j _ => Sl.froz h _) (enc_one ms)
    rw [hmin] at this
    exact this
  · have := Sl.blit h (o := k * n α) (cs := enc ms) (by rw [enc_len, h.1]; omega)
    rw [enc_len, ← e3] at this
    exact this
theorem rw_copy (hgd : o.guard = none) (d s : Operand) (ho : o.op = .call { callee := .builtin .copy, args := #[d, s], argTypes := #[RowS.S α, RowS.S α] }) {m k b off cap : Nat} {xs : List Value} (h : Sl w B (RowT.T α) (n α) (.slice (some ⟨b, off, none⟩) m cap) m xs) (ms : List α) (sa : Addr) (sLen sc dc : Nat) (hk : k + ms.length ≤ m) (hmin : Nat.min sLen (m - k) = ms.length)
    (hsrc : ∀ j v, (enc ms)[j]? = some v → w.cell? (sa.add j) = some v) (hd : a.eval d = .slice (some ⟨b, off + k * n α, none⟩) (m - k) dc) (hs : a.eval s = .slice (some sa) sLen sc)
    (hK : ∀ w', Sl w' B (RowT.T α) (n α) (.slice (some ⟨b, off, none⟩) m cap) m (xs.take (k * n α) ++ enc ms ++ xs.drop ((k + ms.length) * n α)) → w.grownBy w' (some b) → w'.heap.size = w.heap.size → wpList Tryz.prog ops Q rest (a.put o.dst (goInt ms.length)) w') : wpList Tryz.prog ops Q (o :: rest) a w := by
  refine wpList_plain hgd fun K hK' => ?_
  obtain ⟨hr, h2⟩ := run_copy_rs h ms sa sLen sc dc o.type hk hmin hsrc
  unfold Oper.wp execOp
  simp only [ho, resolve, invoke, builtin, Sem.run_bind, Sem.run_pure, Result.andThen_ok, List.map_toArray, List.map_cons, List.map_nil, hd, hs, hr]
  exact hK' _ _ (hK _ h2 (setCells_grown _ _ _ _) (setCells_size _ _ _ _))
theorem turn_copy {K : Value → World → Prop} (d s : Operand) (ho : o.op = .call { callee := .builtin .copy, args := #[d, s], argTypes := #[RowS.S α, RowS.S α] }) {m k b off cap : Nat} {xs : List Value} (h : Sl w B (RowT.T α) (n α) (.slice (some ⟨b, off, none⟩) m cap) m xs) (ms : List α) (sa : Addr) (sLen sc dc : Nat) (hk : k + ms.length ≤ m) (hmin : Nat.min sLen (m - k) = ms.length)
    (hsrc : ∀ j v, (enc ms)[j]? = some v → w.cell? (sa.add j) = some v) (hd : a.eval d = .slice (some ⟨b, off + k * n α, none⟩) (m - k) dc) (hs : a.eval s = .slice (some sa) sLen sc)
    (hK : ∀ w', Sl w' B (RowT.T α) (n α) (.slice (some ⟨b, off, none⟩) m cap) m (xs.take (k * n α) ++ enc ms ++ xs.drop ((k + ms.length) * n α)) → w.grownBy w' (some b) → w'.heap.size = w.heap.size → K (goInt ms.length) w') : effR Tryz.prog K ((execOp a.eval o).run Tryz.prog w) := by
  obtain ⟨hr, h2⟩ := run_copy_rs h ms sa sLen sc dc o.type hk hmin hsrc
  unfold execOp
  simp only [ho, resolve, invoke, builtin, Sem.run_bind, Sem.run_pure, Result.andThen_ok, List.map_toArray, List.map_cons, List.map_nil, hd, hs, hr]
  exact hK _ h2 (setCells_grown _ _ _ _) (setCells_size _ _ _ _)
theorem made_rs {b off cap i : Nat} (h : Rs w B (.slice (some ⟨b, off, none⟩) l.length cap) l) (hi : i < l.length) (hlen : l.length ≤ 1000) (hcap : cap < l.length + 1) :
    ∃ (W' : World) (c2 : Nat) (ys : List Value), (∀ ty, (Builtin.append_ #[RowS.S α, 3] ty #[.slice (some ⟨b, off, none⟩) i cap, .int .i64 ((l.length + 1 - i : Nat) : Int)]).run Tryz.prog w = .ok (.slice (some ⟨w.heap.size, 0, none⟩) (l.length + 1) c2) W') ∧
      Sl W' w.heap.size (RowT.T α) (n α) (.slice (some ⟨w.heap.size, 0, none⟩) (l.length + 1) c2) (l.length + 1) (enc (l.take i) ++ ys) ∧ Below w.heap.size w W' := by
  obtain ⟨inf, hinf, hz, hn, hby⟩ := RowT.info (α := α)
  have e0 : i + (l.length + 1 - i) = l.length + 1 := by omega
  have hr := fun ty => run_append_made (P := Tryz.prog) w (RowS.S α) 3 ty (RowT.T α) inf (.agg (arr (RowT.z : α))) .i64 .i64 RowS.hS Tryz.underlying3 hinf hz ⟨b, off, none⟩ i cap (enc (l.take i)) (by rw [enc_len, List.length_take, hn]; congr 1; omega)
    (fun j u hu => by
      rw [addr_add]
      rw [enc_take, List.getElem?_take] at hu
      split at hu
      · exact Sl.cell h hu
      · cases hu) (l.length + 1 - i) (by omega) (by rw [hn]; exact Row.pos) (by omega) (by omega) (by rw [hby]; exact RowT.hby)
  simp only [e0] at hr
  have hge := grownCap_ge w (l.length + 1) cap (RowT.T α)
  have hcm := grownCap_le_maxLen w (l.length + 1) cap (RowT.T α) (by have : maxLen = 9223372036854775807 := rfl; omega)
  have hcz : (Value.agg (arr (RowT.z : α))).cells = arr (RowT.z : α) := rfl
  have el : (enc (l.take i)).length = i * n α := by rw [enc_len, List.length_take, Nat.min_eq_left (by omega)]
  have e5 : i * n α + (l.length + 1 - i) * n α = (l.length + 1) * n α := by rw [← Nat.add_mul]; congr 1
  have e6 : (l.length + 1) * n α + (grownCap w (l.length + 1) cap (RowT.T α) - (l.length + 1)) * n α = grownCap w (l.length + 1) cap (RowT.T α) * n α := by rw [← Nat.add_mul]; congr 1; omega
  refine ⟨_, _, (Builtin.zeroCells (arr (RowT.z : α)) (l.length + 1 - i)).toList, hr, ⟨?_, .inr ⟨w.heap.size, 0, _, _, rfl, Nat.le_refl _, heap_alloc_new w.drew _, hge, hcm, ?_, ?_⟩⟩, ?_⟩
  · rw [List.length_append, el, Array.length_toList, size_zeroCells, arr_size]; exact e5
  · simp only [Array.size_append, List.size_toArray, size_zeroCells, el, hcz, len]
    omega
  · intro j u hu
    rw [Nat.zero_add]
    have hj := (List.getElem?_eq_some_iff.1 hu).1
    rw [List.length_append, el, Array.length_toList, size_zeroCells, arr_size] at hj
    rw [Array.getElem?_append_left (by simp only [Array.size_append, List.size_toArray, size_zeroCells, el, hcz, len]; omega), ← Array.getElem?_toList]
    simpa [hcz] using hu
  · exact ((Below.refl _ w).drew).alloc (Nat.le_refl _) _
theorem ins_grow {i : Nat} (hi : i < l.length) (x : α) {ys : List Value} (hy : ys.length = (l.length + 1 - i) * n α) :
    ((enc (l.take i) ++ ys).take (i * n α) ++ enc [x] ++ (enc (l.take i) ++ ys).drop ((i + [x].length) * n α)).take ((i + 1) * n α) ++ enc (l.drop i) ++
      ((enc (l.take i) ++ ys).take (i * n α) ++ enc [x] ++ (enc (l.take i) ++ ys).drop ((i + [x].length) * n α)).drop ((i + 1 + (l.drop i).length) * n α) = enc (l.take i ++ x :: l.drop i) := by
  have el : (enc (l.take i)).length = i * n α := by rw [enc_len, List.length_take, Nat.min_eq_left (by omega)]
  have ex : (enc [x]).length = n α := by rw [enc_len]; simp
  have e1 : (i + 1) * n α = i * n α + n α := by rw [Nat.add_mul, Nat.one_mul]
  have e2 : (l.length + 1) * n α = i * n α + (l.length + 1 - i) * n α := by rw [← Nat.add_mul]; congr 1; omega
  have e3 : (i + 1 + (l.drop i).length) * n α = (l.length + 1) * n α := by rw [List.length_drop]; congr 1; omega
  have e4 : 1 * n α ≤ (l.length + 1 - i) * n α := Nat.mul_le_mul_right _ (by omega)
  rw [Nat.one_mul] at e4
  rw [List.take_left' el, List.take_left' (by rw [List.length_append, el, ex, e1]), e3, List.drop_of_length_le (l := enc (l.take i) ++ enc [x] ++ (enc (l.take i) ++ ys).drop ((i + [x].length) * n α)) (by rw [List.length_append, List.length_append, List.length_drop, List.length_append, el, ex, hy, show i + [x].length = i + 1 from rfl, e1, e2]; omega), List.append_nil, enc_append, enc_cons, enc_cons, enc_nil, List.append_nil, List.append_assoc]
theorem ins_room {i : Nat} (hi : i < l.length) (x : α) {ys : List Value} (hy : ys.length = (l.length + 1 - l.length) * n α) :
    ((enc l ++ ys).take ((i + 1) * n α) ++ enc (l.drop i) ++ (enc l ++ ys).drop ((i + 1 + (l.drop i).length) * n α)).take (i * n α) ++ enc [x] ++
      ((enc l ++ ys).take ((i + 1) * n α) ++ enc (l.drop i) ++ (enc l ++ ys).drop ((i + 1 + (l.drop i).length) * n α)).drop ((i + [x].length) * n α) = enc (l.take i ++ x :: l.drop i) := by
  have hy1 : ys.length = n α := by rw [hy, show l.length + 1 - l.length = 1 by omega, Nat.one_mul]
  have e1 : (i + 1) * n α = i * n α + n α := by rw [Nat.add_mul, Nat.one_mul]
  have e2 : (i + 1) * n α ≤ l.length * n α := Nat.mul_le_mul_right _ hi
  have e3 : (i + 1 + (l.drop i).length) * n α = l.length * n α + n α := by rw [List.length_drop, show i + 1 + (l.length - i) = l.length + 1 by omega, Nat.add_mul, Nat.one_mul]
  have et : (enc l ++ ys).take ((i + 1) * n α) = (enc l).take ((i + 1) * n α) := List.take_append_of_le_length (by rw [enc_len]; exact e2)
  have hl1 : ((enc l).take ((i + 1) * n α)).length = (i + 1) * n α := by rw [List.length_take, enc_len, Nat.min_eq_left e2]
  rw [et, e3, List.drop_of_length_le (l := enc l ++ ys) (by rw [List.length_append, enc_len, hy1]; omega), List.append_nil, show i + [x].length = i + 1 from rfl, List.drop_left' hl1, List.take_append_of_le_length (by rw [hl1, e1]; omega), List.take_take, Nat.min_eq_left (by rw [e1]; omega), enc_append, enc_cons, enc_cons, enc_nil, List.append_nil, ← enc_take, List.append_assoc]
theorem shape_cells {b : Nat} {C : Array Value} {t : TypeId} (h : w.heap[b]? = some (.cells C t)) : w.shape? b = some (t, C.size) := by simp [World.shape?, h]
theorem foldl_overl : ∀ (L : List Value) (o m : Nat) (Z : Array Value), m = 0 → (L.zipIdx o).foldl (fun cs (x : Value × Nat) => cs.setIfInBounds (m + x.2) x.1) Z = overl Z o L
  | [], _, _, _, _ => rfl
  | v :: L, o, m, Z, hm => by
    rw [List.zipIdx_cons, List.foldl_cons, foldl_overl L (o + 1) m _ hm, overl]
    congr 1
    rw [hm, Nat.zero_add]
theorem fill_one {n : Nat} {Z C : Array Value} (hZ : Z.size = n) (hC : C.size = n) : Instr.fill (fun i => some (i * n, n)) Z [(0, .agg C)] = some C := by
  have h1 : (Value.agg C).cells = C := rfl
  have hn : ¬ (C.size ≠ n ∨ 0 * n + C.size > Z.size) := by omega
  have e : (C.zipIdx.foldl (fun (cs : Array Value) (x : Value × Nat) => cs.setIfInBounds (0 * n + x.2) x.1) Z) = C := by
    rw [← Array.foldl_toList, Array.toList_zipIdx, foldl_overl C.toList 0 (0 * n) Z (Nat.zero_mul n)]
    exact overl_all (by omega)
  simp only [Instr.fill, h1]
  rw [if_neg (by simpa using hn)]
  exact congrArg some e
/-- a slice literal of one row -/
theorem rw_lit1 (hn24 : n α ≤ 16777216) (hgd : o.guard = none) (x : Operand) (ho : o.op = .buildSlice (RowS.S α) 1 #[(0, x)]) (s : α) (hx : a.eval x = .agg (arr s))
    (h : wpList Tryz.prog ops Q rest (a.put o.dst (.slice (some ⟨w.heap.size, 0, none⟩) 1 1)) (w.alloc (.cells (arr s) (RowT.T α)))) : wpList Tryz.prog ops Q (o :: rest) a w := by
  obtain ⟨i, hi, hz, hn, hb⟩ := RowT.info (α := α)
  refine wpList_buildSlice hgd (RowS.S α) (RowT.T α) 1 #[(0, x)] ho (arr s) i (.agg (arr (RowT.z : α))) RowS.hS hi hz (by rw [hn]; omega) (by rw [hn]; have := Row.pos (α := α); omega) ?_ h
  simp only [List.map_toArray, List.map_cons, List.map_nil, hx, hn]
  exact fill_one (by simp [size_zeroCells, len]) (arr_size s)
end
end Go.Proofs.YtokhnbdhcehonaaGreat
