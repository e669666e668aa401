/- index: slices.Sort and slices.Compact of ints: the library's contracts laid at this program. -/
import Derived.Test.YtokhnbdhcehonaaGreatRowk2
import Derived.Shelf.Sort.Plain
import Derived.Shelf.Slices.CompactI
import Derived.Shelf.Slices.In.SortNone
import Derived.Lib.SortBridge
set_option linter.unusedSimpArgs false
set_option linter.unusedVariables false
namespace Go.Proofs.YtokhnbdhcehonaaGreat
open Go Go.RowKit Go.Shelf Go.Lib Go.Sort
set_option maxRecDepth 100000
def sortI_ren : Go.Shelf.Ren := ⟨fun | 189 => 87 | 125 => 124 | 257 => 123 | 128 => 150 | 129 => 151 | 294 => 141 | 295 => 142 | 296 => 143 | 297 => 144 | 298 => 145 | 299 => 146 | 216 => 147 | 300 => 148 | 301 => 149 | 328 => 164 | 329 => 165 | 330 => 166 | 331 => 167 | 332 => 168 | 215 => 125 | 343 => 173 | n => n, fun | 28 => 71 | 3 => 3 | 46 => 152 | 0 => 0 | 51 => 171 | 53 => 173 | 4 => 4 | 183 => 165 | 182 => 164 | 131 => 55 | 5 => 5 | 9 => 9 | 218 => 184 | 222 => 188 | 228 => 191 | 229 => 192 | n => n, fun | n => n⟩
theorem sortI : Go.Proofs.Lays.n189 Tryz.prog sortI_ren :=
  { mixed := by kernel_rfl,
    f125 := Tryz.func124.trans (congrArg some (by kernel_rfl)),
    f128 := Tryz.func150.trans (congrArg some (by kernel_rfl)),
    f129 := Tryz.func151.trans (congrArg some (by kernel_rfl)),
    f189 := Tryz.func87.trans (congrArg some (by kernel_rfl)),
    f215 := Tryz.func125.trans (congrArg some (by kernel_rfl)),
    f216 := Tryz.func147.trans (congrArg some (by kernel_rfl)),
    f257 := Tryz.func123.trans (congrArg some (by kernel_rfl)),
    f294 := Tryz.func141.trans (congrArg some (by kernel_rfl)),
    f295 := Tryz.func142.trans (congrArg some (by kernel_rfl)),
    f296 := Tryz.func143.trans (congrArg some (by kernel_rfl)),
    f297 := Tryz.func144.trans (congrArg some (by kernel_rfl)),
    f298 := Tryz.func145.trans (congrArg some (by kernel_rfl)),
    f299 := Tryz.func146.trans (congrArg some (by kernel_rfl)),
    f300 := Tryz.func148.trans (congrArg some (by kernel_rfl)),
    f301 := Tryz.func149.trans (congrArg some (by kernel_rfl)),
    f328 := Tryz.func164.trans (congrArg some (by kernel_rfl)),
    f329 := Tryz.func165.trans (congrArg some (by kernel_rfl)),
    f330 := Tryz.func166.trans (congrArg some (by kernel_rfl)),
    f331 := Tryz.func167.trans (congrArg some (by kernel_rfl)),
    f332 := Tryz.func168.trans (congrArg some (by kernel_rfl)),
    f343 := Tryz.func173.trans (congrArg some (by kernel_rfl)),
    t0 := Tryz.underlying0,
    a0 := Tryz.isAgg0,
    z0 := Tryz.sizeOf0,
    v0 := Tryz.zeroValue0,
    t3 := Tryz.underlying3,
    a3 := Tryz.isAgg3,
    z3 := Tryz.sizeOf3,
    v3 := Tryz.zeroValue3,
    t4 := Tryz.underlying4,
    a4 := Tryz.isAgg4,
    z4 := Tryz.sizeOf4,
    v4 := Tryz.zeroValue4,
    t5 := Tryz.underlying5,
    a5 := Tryz.isAgg5,
    z5 := Tryz.sizeOf5,
    v5 := Tryz.zeroValue5,
    t9 := Tryz.underlying9,
    a9 := Tryz.isAgg9,
    z9 := Tryz.sizeOf9,
    v9 := Tryz.zeroValue9,
    t28 := Tryz.underlying71,
    a28 := Tryz.isAgg71,
    z28 := Tryz.sizeOf71,
    v28 := Tryz.zeroValue71,
    t46 := Tryz.underlying152,
    a46 := Tryz.isAgg152,
    z46 := Tryz.sizeOf152,
    v46 := Tryz.zeroValue152,
    t51 := Tryz.underlying171,
    a51 := Tryz.isAgg171,
    z51 := Tryz.sizeOf171,
    v51 := Tryz.zeroValue171,
    t53 := Tryz.underlying173,
    a53 := Tryz.isAgg173,
    z53 := Tryz.sizeOf173,
    v53 := Tryz.zeroValue173,
    t131 := Tryz.underlying55,
    a131 := Tryz.isAgg55,
    z131 := Tryz.sizeOf55,
    v131 := Tryz.zeroValue55,
    t182 := Tryz.underlying164,
    a182 := Tryz.isAgg164,
    z182 := Tryz.sizeOf164,
    v182 := Tryz.zeroValue164,
    t183 := Tryz.underlying165,
    a183 := Tryz.isAgg165,
    z183 := Tryz.sizeOf165,
    v183 := Tryz.zeroValue165,
    t218 := Tryz.underlying184,
    a218 := Tryz.isAgg184,
    z218 := Tryz.sizeOf184,
    v218 := Tryz.zeroValue184,
    t222 := Tryz.underlying188,
    a222 := Tryz.isAgg188,
    z222 := Tryz.sizeOf188,
    v222 := Tryz.zeroValue188,
    t228 := Tryz.underlying191,
    a228 := Tryz.isAgg191,
    z228 := Tryz.sizeOf191,
    v228 := Tryz.zeroValue191,
    t229 := Tryz.underlying192,
    a229 := Tryz.isAgg192,
    z229 := Tryz.sizeOf192,
    v229 := Tryz.zeroValue192 }
def compI_ren : Go.Shelf.Ren := ⟨fun | 20 => 88 | n => n, fun | 22 => 71 | 3 => 3 | 4 => 4 | 0 => 0 | n => n, fun | n => n⟩
theorem compI : Go.Proofs.Lays2.n20 Tryz.prog compI_ren :=
  { mixed := by kernel_rfl,
    f20 := Tryz.func88.trans (congrArg some (by kernel_rfl)),
    t0 := Tryz.underlying0,
    a0 := Tryz.isAgg0,
    z0 := Tryz.sizeOf0,
    v0 := Tryz.zeroValue0,
    t3 := Tryz.underlying3,
    a3 := Tryz.isAgg3,
    z3 := Tryz.sizeOf3,
    v3 := Tryz.zeroValue3,
    t4 := Tryz.underlying4,
    a4 := Tryz.isAgg4,
    z4 := Tryz.sizeOf4,
    v4 := Tryz.zeroValue4,
    t22 := Tryz.underlying71,
    a22 := Tryz.isAgg71,
    z22 := Tryz.sizeOf71,
    v22 := Tryz.zeroValue71,
    i3 := by kernel_rfl }
/-! slices of ints -/
def encN (l : List Int) : List Value := l.map (Value.int .i64)
def Is (w : World) (B : Nat) (v : Value) (l : List Int) : Prop := Sl w B 3 1 v l.length (encN l)
theorem encN_len (l : List Int) : (encN l).length = l.length := by simp [encN]
theorem encN_append (l m : List Int) : encN (l ++ m) = encN l ++ encN m := by simp [encN]
section
variable {w w' : World} {B : Nat} {v : Value} {l : List Int}
theorem Is.below (h : Is w B v l) (hb : Below w.heap.size w w') : Is w' B v l := Sl.below h hb
theorem Is.mono (h : Is w B v l) {B' : Nat} (hB : B' ≤ B) : Is w B' v l := Sl.mono h hB
theorem Is.any (h : Is w B v l) : ∃ A cap, v = .slice A l.length cap ∧ l.length ≤ cap ∧ cap ≤ maxLen := Sl.any h
theorem Is.shape (h : Is w B v l) (hp : 0 < l.length) : ∃ b off cap, v = .slice (some ⟨b, off, none⟩) l.length cap ∧ l.length ≤ cap ∧ cap ≤ maxLen := Sl.shape h hp
theorem Is.cell {b off cap j : Nat} (h : Is w B (.slice (some ⟨b, off, none⟩) l.length cap) l) (hj : j < l.length) : w.cell? ⟨b, off + j, none⟩ = some (.int .i64 l[j]) := Sl.cell h (by simp [encN, hj])
theorem Is.holds {b off cap : Nat} (h : Is w B (.slice (some ⟨b, off, none⟩) l.length cap) l) : Holds (Value.int .i64) w b off l.toArray := fun j hj => by
  have hj' : j < l.length := by simpa using hj
  refine ⟨?_, Sl.froz h _⟩
  rw [h.cell hj', getElem!_pos _ j hj]
  simp
/-- a list that has been built in a call whose own blocks begin at w0's end -/
structure Oi (w0 w : World) (v : Value) (out : List Int) : Prop where
  rs : Is w w0.heap.size v out
  bl : Below w0.heap.size w0 w
theorem Oi.start (w0 : World) : Oi w0 w0 (.slice none 0 0) [] := ⟨Sl.nil _ _ _ _, Below.refl _ _⟩
theorem Oi.below {w0 : World} (h : Oi w0 w v l) (hb : Below w.heap.size w w') : Oi w0 w' v l := ⟨h.rs.below hb, h.bl.trans (hb.mono h.bl.size)⟩
end
theorem info3 : ∃ i, Tryz.prog.info? 3 = some i ∧ i.zero = some (.int .i64 0) ∧ i.size = 1 ∧ i.bytes = 8 := by
  have h : (Tryz.prog.info? 3).map (fun i => (i.zero, i.size, i.bytes)) = some (some (.int .i64 0), 1, 8) := by kernel_rfl
  cases hi : Tryz.prog.info? 3 with
  | none => rw [hi] at h; cases h
  | some i =>
    rw [hi] at h
    simp only [Option.map_some, Option.some.injEq, Prod.mk.injEq] at h
    exact ⟨i, rfl, h.1, h.2.1, h.2.2⟩
section
variable {w0 w : World} {v : Value} {out : List Int} {ops : Array Oper} {rest : List Oper} {o : Oper} {a : Act} {Q : Exit → Act → World → Prop}
/-- out = append(out, k) -/
theorem iw_append (hgd : o.guard = none) (s x : Operand) (ho : o.op = .call { callee := .builtin .append, args := #[s, x], argTypes := #[71, 71] }) (h : Oi w0 w v out) (hlen : out.length < 1000000) (k : Int) (hs : a.eval s = v) (hx : a.eval x = .slice (some ⟨w.heap.size, 0, none⟩) 1 1)
    (hK : ∀ v' w', Oi w0 w' v' (out ++ [k]) → wpList Tryz.prog ops Q rest (a.put o.dst v') w') : wpList Tryz.prog ops Q (o :: rest) a (w.alloc (.cells #[.int .i64 k] 3)) := by
  obtain ⟨i0, hi, hz0, hz1, hz2⟩ := info3
  have hb : Below w.heap.size w (w.alloc (.cells #[.int .i64 k] 3)) := by go_grown
  have hsz := h.bl.size
  have hm63 : maxLen = 9223372036854775807 := rfl
  refine wpList_append_sl _ hgd s x 71 ho 3 i0 (.int .i64 0) 1 8 Tryz.underlying71 hi hz0 hz1 hz2 rfl (by decide) hs (h.rs.below hb) (some ⟨w.heap.size, 0, none⟩) 1 1 [.int .i64 k] hx (by simp) rfl (by intro ad had j u hu; cases had; match j, hu with | 0, hu => simp at hu; subst hu; simp [Addr.add]) (by intro u hu; simp at hu; subst hu; rfl) (by omega) (by omega) (by rw [alloc_size]; omega) ?_
  intro v' w' h1 h2 _
  refine hK v' w' ⟨?_, (h.bl.trans (hb.mono hsz)).grown h2 (by rw [alloc_size]; omega) (fun j hj => Sl.ge h.rs j hj)⟩
  unfold Is
  rw [encN_append, List.length_append]
  exact h1
end
/-- a sorted list of no two equal ones is its own compaction -/
theorem drewN_heap (w : World) (q : Nat) : (w.drewN q).heap = w.heap := rfl
theorem stored_is {w : World} {B b off cap q : Nat} {l d : List Int} {os : Array Obj} (h : Is w B (.slice (some ⟨b, off, none⟩) l.length cap) l) (hd : d.length = l.length) :
    Is (Go.Sort.grow ((w.drewN q).setCells b off (d.map (Value.int .i64))) os) B (.slice (some ⟨b, off, none⟩) l.length cap) d ∧ w.grownBy (Go.Sort.grow ((w.drewN q).setCells b off (d.map (Value.int .i64))) os) (some b) := by
  have h1 : Sl (w.drewN q) B 3 1 (.slice (some ⟨b, off, none⟩) l.length cap) l.length (encN l) := Sl.of h fun k _ => by rw [drewN_heap]
  have h2 := Sl.blit h1 (o := 0) (cs := d.map (Value.int .i64)) (by simp [encN, hd])
  simp only [Nat.add_zero, List.take_zero, List.nil_append, Nat.zero_add] at h2
  rw [List.drop_of_length_le (by simp [encN, hd]), List.append_nil] at h2
  obtain ⟨g1, g2, g3, g4, g5⟩ := setCells_grown b (d.map (Value.int .i64)) off (w.drewN q)
  have hsz : w.heap.size ≤ ((w.drewN q).setCells b off (d.map (Value.int .i64))).heap.size := g4
  refine ⟨?_, g1, g2, g3, ?_, fun k hk hne => ?_⟩
  · unfold Is
    rw [hd]
    exact Sl.of h2 fun k hk => heap_grow_old _ _ (Sl.lt h2 k hk)
  · exact Nat.le_trans hsz (by simp [Go.Sort.grow])
  · exact (heap_grow_old _ _ (Nat.lt_of_lt_of_le hk hsz)).trans (g5 k hk hne)
def srtI (l : List Int) : List Int := l.mergeSort fun x y => decide (x ≤ y)
theorem srtI_len (l : List Int) : (srtI l).length = l.length := List.length_mergeSort l
theorem some_of {w : World} {B : Nat} {v : Value} {l : List Int} (h : Is w B v l) : (v = .slice none 0 0 ∧ l = []) ∨ ∃ b off cap, v = .slice (some ⟨b, off, none⟩) l.length cap ∧ b < w.heap.size ∧ B ≤ b ∧ l.length ≤ cap := by
  rcases h.2 with ⟨h0, h1⟩ | ⟨b, off, cap, cur, he, hB, hg, h1, _⟩
  · exact .inl ⟨h0, List.length_eq_zero_iff.1 h1⟩
  · exact .inr ⟨b, off, cap, he, heap_lt hg, hB, h1⟩
theorem sort_any {w0 w : World} {v : Value} {l : List Int} (h : Oi w0 w v l) (hlen : l.length ≤ 1000000) : Calls Tryz.prog 87 #[v] w fun e w' => e = .returned (.tuple #[]) ∧ Oi w0 w' v (srtI l) := by
  rcases some_of h.rs with ⟨rfl, rfl⟩ | ⟨b, off, cap, rfl, hlt, hB, hc⟩
  · refine (Any.slices_Sort_int_none sortI none 0 w).mono ?_
    rintro e w' ⟨rfl, rfl⟩
    rw [show srtI [] = [] by simp [srtI]]
    exact ⟨rfl, h⟩
  · refine (Any.slices_Sort_int sortI b off cap l w h.rs.holds hlt (by omega)).mono ?_
    rintro e w' ⟨rfl, q, os, rfl⟩
    rw [show (l.mergeSort fun x y => decide (x ≤ y)) = srtI l from rfl, Lib.sorted_world _ w b off q _ (srtI l) _ h.rs.holds (by rw [srtI_len]; simp)]
    obtain ⟨h1, h2⟩ := stored_is (q := q) (os := os) h.rs (srtI_len l)
    refine ⟨rfl, ?_, h.bl.grown h2 h.bl.size (fun j hj => by cases hj; exact hB)⟩
    have := h1
    rwa [← srtI_len l] at this
theorem compact_same {l : List Int} (hs : l.Pairwise (· < ·)) : Lib.compact l = l := by
  refine Lib.compact_all l fun j hj => ?_
  by_cases h0 : j = 0
  · subst h0; simp [Lib.keeps]
  · refine Lib.keeps_pos ?_
    have h1 : j < l.toArray.size := by simpa using hj
    have h2 : j - 1 < l.toArray.size := by omega
    rw [getElem!_pos _ j h1, getElem!_pos _ (j - 1) h2]
    have := List.pairwise_iff_getElem.1 hs (j - 1) j (by simpa using h2) hj (by omega)
    simp only [List.getElem_toArray]
    omega
theorem compact_any {w0 w : World} {v : Value} {l : List Int} (h : Oi w0 w v l) (hlen : l.length ≤ 1000000) (hs : l.Pairwise (· < ·)) : Calls Tryz.prog 88 #[v] w fun e w' => e = .returned v ∧ Oi w0 w' v l := by
  rcases some_of h.rs with ⟨rfl, rfl⟩ | ⟨b, off, cap, rfl, hlt, hB, hc⟩
  · refine (Any.slices_Compact_int_empty compI none 0 w).mono ?_
    rintro e w' ⟨rfl, rfl⟩
    exact ⟨rfl, h⟩
  · refine (Any.slices_Compact_int compI b off cap l w h.rs.holds (by omega) hc).mono ?_
    rintro e w' ⟨rfl, q, rfl⟩
    rw [compact_same hs, Nat.sub_self, List.replicate_zero, List.append_nil]
    have h0 := Lib.sorted_world (Value.int .i64) w b off q l.toArray l #[] h.rs.holds (by simp)
    rw [grow_empty, grow_empty] at h0
    rw [h0]
    obtain ⟨h1, h2⟩ := stored_is (q := q) (os := #[]) h.rs (rfl : l.length = l.length)
    rw [grow_empty] at h1 h2
    exact ⟨rfl, h1, h.bl.grown h2 h.bl.size (fun j hj => by cases hj; exact hB)⟩
end Go.Proofs.YtokhnbdhcehonaaGreat
