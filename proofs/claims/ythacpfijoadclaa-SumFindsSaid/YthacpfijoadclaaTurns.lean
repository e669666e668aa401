/- SumTurns: the plain law. -/
import Derived.Test.YthacpfijoadclaaOf
import Derived.Test.YthacpfijoadclaaOpen
import Derived.Test.YthacpfijoadclaaSlice
import Derived.Test.YthacpfijoadclaaFlow2
import Derived.Laws.BytesArg
import Derived.Laws.IdiomStrings
import Derived.OpenShut
namespace Go.Proofs.Ythacpfijoadclaa
open Go Go.RowKit

/-! ### bytes -/
theorem bits_u8_xor (x y : UInt8) : bits .xor .u8 (x.toNat : Int) (y.toNat : Int) = ((x ^^^ y).toNat : Int) := by
  have h : bits .xor .u8 (x.toNat : Int) (y.toNat : Int) = IntKind.u8.wrap ((BitVec.ofInt 8 (x.toNat : Int) ^^^ BitVec.ofInt 8 (y.toNat : Int)).toNat : Int) := rfl
  have e : ∀ z : UInt8, BitVec.ofInt 8 (z.toNat : Int) = z.toBitVec := by
    intro z
    apply BitVec.eq_of_toNat_eq
    have := z.toNat_lt
    rw [BitVec.toNat_ofInt]
    show (((z.toNat : Int) % ((2 ^ 8 : Nat) : Int))).toNat = z.toNat
    omega
  rw [h, e, e]
  have hw : IntKind.u8.wrap ((x.toBitVec ^^^ y.toBitVec).toNat : Int) = ((x.toBitVec ^^^ y.toBitVec).toNat : Int) := by
    have hl := (x.toBitVec ^^^ y.toBitVec).isLt
    rw [IntKind.wrap_u8]
    omega
  rw [hw]
  rfl
theorem ofB_xor (x y : UInt8) : ofB (x ^^^ y) = ofB x ^^^ ofB y := by
  apply BitVec.eq_of_toNat_eq
  unfold ofB
  have hx := x.toNat_lt
  have hy := y.toNat_lt
  have hxy := (x ^^^ y).toNat_lt
  rw [BitVec.toNat_xor, BitVec.toNat_ofNat, BitVec.toNat_ofNat, BitVec.toNat_ofNat, Nat.mod_eq_of_lt (by omega), Nat.mod_eq_of_lt (by omega), Nat.mod_eq_of_lt (by omega)]
  exact UInt8.toNat_xor x y
structure Tri where
  x : UInt8
  y : UInt8
  z : UInt8
def Tri.all (t : Tri) : UInt8 := t.x ^^^ t.y ^^^ t.z
theorem xor4 (a b c d : W32) (h : a ^^^ b ^^^ c ^^^ d = 0) : d = a ^^^ b ^^^ c := by
  have e : (a ^^^ b ^^^ c) ^^^ (a ^^^ b ^^^ c ^^^ d) = d := by rw [← BitVec.xor_assoc, BitVec.xor_self, BitVec.zero_xor]
  rw [h] at e
  rw [← e]
  exact BitVec.xor_zero
theorem turns (L : List Tri) : ∀ (a b c d : W32), a ^^^ b ^^^ c ^^^ d = 0 →
    runS a (L.map (·.x)) ^^^ runS b (L.map (·.y)) ^^^ runS c (L.map (·.z)) ^^^ runS d (L.map Tri.all) = 0 := by
  induction L with
  | nil => intro a b c d h; exact h
  | cons t L ih =>
    intro a b c d h
    refine ih (byteS a t.x) (byteS b t.y) (byteS c t.z) (byteS d t.all) ?_
    unfold byteS
    rw [← stepN_xor, ← stepN_xor, ← stepN_xor]
    have : a ^^^ ofB t.x ^^^ (b ^^^ ofB t.y) ^^^ (c ^^^ ofB t.z) ^^^ (d ^^^ ofB t.all) = 0 := by
      have e1 : ofB t.all = ofB t.x ^^^ ofB t.y ^^^ ofB t.z := by unfold Tri.all; rw [ofB_xor, ofB_xor]
      rw [e1, xor4 a b c d h]
      generalize ofB t.x = p
      generalize ofB t.y = q
      generalize ofB t.z = r
      apply BitVec.eq_of_getLsbD_eq
      intro i hi
      simp only [BitVec.getLsbD_xor]
      cases a.getLsbD i <;> cases b.getLsbD i <;> cases c.getLsbD i <;> cases p.getLsbD i <;> cases q.getLsbD i <;> cases r.getLsbD i <;> simp
    rw [this, stepN_zero]
theorem turns_sum (L : List Tri) : sumS ⟨(L.map (·.x)).toArray⟩ ^^^ sumS ⟨(L.map (·.y)).toArray⟩ ^^^ sumS ⟨(L.map (·.z)).toArray⟩ ^^^ sumS ⟨(L.map Tri.all).toArray⟩ = 0 := by
  have h := turns L allOne allOne allOne allOne (by decide)
  unfold sumS
  simp only
  generalize runS allOne (L.map (·.x)) = a at *
  generalize runS allOne (L.map (·.y)) = b at *
  generalize runS allOne (L.map (·.z)) = c at *
  generalize runS allOne (L.map Tri.all) = d at *
  rw [xor4 a b c d h]
  apply BitVec.eq_of_getLsbD_eq
  intro i hi
  simp only [BitVec.getLsbD_xor]
  cases a.getLsbD i <;> cases b.getLsbD i <;> cases c.getLsbD i <;> cases allOne.getLsbD i <;> simp

/-! ### rows of bytes -/
def encB (l : List UInt8) : List Value := l.map fun b => .int .u8 (b.toNat : Int)
theorem encB_one (l : List UInt8) : ∀ u ∈ encB l, u.oneCell' = true := by
  intro u hu
  obtain ⟨x, _, rfl⟩ := List.mem_map.1 hu
  rfl
theorem encB_snoc (l : List UInt8) (b : UInt8) : encB l ++ [.int .u8 (b.toNat : Int)] = encB (l ++ [b]) := by simp [encB]
theorem conv_row {w : World} {B : Nat} {v : Value} {n : Nat} {l : List UInt8} (h : Sl w B 5 1 v n (encB l)) (hn : l.length = n) : (convert 29 9 v).run Try.prog w = .ok (.string ⟨l.toArray⟩) w := by
  subst hn
  rcases h.2 with ⟨rfl, h0⟩ | ⟨b, off, cap, cur, rfl, _, hg, _, _, _, hc⟩
  · have : l = [] := List.length_eq_zero_iff.1 h0
    subst this
    exact run_convert_bytes_nil (P := Try.prog) w 29 5 Try.underlying29 Try.underlying5 0 0 9 Try.underlying9
  · refine run_convert_bytes_back (P := Try.prog) w 29 9 5 ⟨b, off, none⟩ cap l Try.underlying29 Try.underlying5 Try.underlying9 fun j hj => ?_
    rw [addr_add, row_cell hg]
    exact hc j _ (by simp [encB, hj])

def disj (v u : Value) : Prop := ∀ q, v.ownBlock = some q → u.ownBlock ≠ some q
theorem disj.symm {v u : Value} (h : disj v u) : disj u v := fun q hq hv => h q hv hq
theorem disj_nil (u : Value) : disj (.slice none 0 0) u := by intro q hq; cases hq
theorem other_stays {w w0 w' : World} {B : Nat} {e : TypeId} {sz n : Nat} {u v : Value} {xs : List Value} (hu : Sl w B e sz u n xs) (hb0 : Below w.heap.size w w0) (hg : w0.grownBy w' v.ownBlock) (hd : disj u v) : Sl w' B e sz u n xs :=
  hu.of fun q hq => (hg.block q (Nat.lt_of_lt_of_le (hu.lt q hq) hb0.size) (fun e => hd q hq e.symm)).trans (hb0.block q (hu.lt q hq))
theorem disj_app {w : World} {B : Nat} {e : TypeId} {sz n : Nat} {u v v' : Value} {xs : List Value} (hu : Sl w B e sz u n xs) (hd : disj v u) (hown : ∀ k, v'.ownBlock = some k → v.ownBlock = some k ∨ w.heap.size ≤ k) : disj v' u := by
  intro q hq he
  rcases hown q hq with h1 | h1
  · exact hd q h1 he
  · have := hu.lt q he; omega
theorem info5 : (Try.prog.info? 5).map (fun i => (i.zero, i.size, i.bytes)) = some (some (.int .u8 0), 1, 1) := by kernel_rfl

def Tri.row (t : Tri) : List Value := [.int .u8 (t.x.toNat : Int), .int .u8 (t.y.toNat : Int), .int .u8 (t.z.toNat : Int)]
theorem byte_of {n : Int} (h : (Lit.int .u8 n).wf = true) : ∃ b : UInt8, n = (b.toNat : Int) := by
  obtain ⟨h0, h1⟩ := bounds_u8 h
  refine ⟨UInt8.ofNat n.toNat, ?_⟩
  rw [UInt8.toNat_ofNat_of_lt' (by show n.toNat < 256; omega)]
  omega
theorem tri_of_typed {vs : List Value} (h : Typed [3, 3, 3] vs) : ∃ t : Tri, vs = t.row := by
  match vs, h with
  | [v0, v1, v2], ⟨h0, h1, h2, _⟩ =>
    cases v0 <;> simp [leafOk] at h0
    cases v1 <;> simp [leafOk] at h1
    cases v2 <;> simp [leafOk] at h2
    obtain ⟨rfl, h0⟩ := h0
    obtain ⟨rfl, h1⟩ := h1
    obtain ⟨rfl, h2⟩ := h2
    obtain ⟨x, rfl⟩ := byte_of h0
    obtain ⟨y, rfl⟩ := byte_of h1
    obtain ⟨z, rfl⟩ := byte_of h2
    exact ⟨⟨x, y, z⟩, rfl⟩
theorem tris_of_rows (R : List (List Value)) (h : ∀ (i : Nat) (hi : i < R.length), Typed [3, 3, 3] R[i]) : ∃ L : List Tri, R = L.map Tri.row ∧ True := by
  induction R with
  | nil => exact ⟨[], rfl, trivial⟩
  | cons r R ih =>
    obtain ⟨L, rfl, _⟩ := ih fun i hi => h (i + 1) (by simpa using hi)
    obtain ⟨x, hx⟩ := tri_of_typed (h 0 (by simp))
    exact ⟨x :: L, by simp [← hx], trivial⟩
def TrisAt (w : World) (A : Option Addr) (L : List Tri) : Prop := RowsAt w A 3 (L.map Tri.row)
theorem TrisAt.at_ {w : World} {A : Option Addr} {L : List Tri} (h : TrisAt w A L) {k : Nat} (hk : k < L.length) :
    ∃ b off, A = some ⟨b, off, none⟩ ∧ b < w.heap.size ∧ w.cell? ⟨b, off + k * 3, none⟩ = some (.int .u8 (L[k].x.toNat : Int)) ∧ w.cell? ⟨b, off + k * 3 + 1, none⟩ = some (.int .u8 (L[k].y.toNat : Int)) ∧ w.cell? ⟨b, off + k * 3 + 2, none⟩ = some (.int .u8 (L[k].z.toNat : Int)) := by
  obtain ⟨b, off, rfl, hlt, hc⟩ := h (by simpa using by omega)
  have hc := hc k (by simpa using hk)
  simp only [List.getElem_map] at hc
  exact ⟨b, off, rfl, hlt, hc 0 _ rfl, hc 1 _ rfl, hc 2 _ rfl⟩

/-! ### append in a drawn region -/
theorem effR_append_sl {P : Program} (w : World) {o : Oper} {a : Act} {K : Value → World → Prop} (s x : Operand) (t : TypeId)
    (ho : o.op = .call { callee := .builtin .append, args := #[s, x], argTypes := #[t, t] })
    {B : Nat} (e : TypeId) (i : TypeInfo) (z : Value) (size bytes : Nat) (ht : P.underlying t = some (.slice e)) (hi : P.info? e = some i) (hz : i.zero = some z)
    (hsize : i.size = size) (hby : i.bytes = bytes) (hzs : z.cells.size = size) (hsz : 0 < size)
    {v : Value} {n : Nat} {xs : List Value} (hs : a.eval s = v) (h : Sl w B e size v n xs)
    (ao : Option Addr) (m c : Nat) (news : List Value) (hx : a.eval x = .slice ao m c) (hnone : ao = none → m = 0 ∧ c = 0) (hl : news.length = m * size) (hnews : ∀ ad, ao = some ad → ∀ j u, news[j]? = some u → w.cell? (ad.add j) = some u) (h1 : ∀ u ∈ news, u.oneCell' = true)
    (h63 : n + m ≤ maxLen) (hbytes : (n + m) * bytes ≤ 140737488355328) (hbase : B ≤ w.heap.size)
    (hK : ∀ v' w', Sl w' B e size v' (n + m) (xs ++ news) → w.grownBy w' v.ownBlock → (∀ k, v'.ownBlock = some k → v.ownBlock = some k ∨ w.heap.size ≤ k) → K v' w') : effR P K ((execOp a.eval o).run P w) := by
  obtain ⟨v', w', hr, h2, h3, h4⟩ := run_append_sl (P := P) w t o.type e i z size bytes ht hi hz hsize hby hzs hsz v n xs h ao m c news hnone hl hnews h1 h63 hbytes hbase
  have hrun : (execOp a.eval o).run P w = .ok (.value v') w' := by
    unfold execOp
    simp only [ho, resolve, invoke, builtin, Sem.run_bind, Sem.run_pure, Result.andThen_ok, List.map_toArray, List.map_cons, List.map_nil, hs, hx, hr]
  rw [hrun]
  exact hK v' w' h2 h3 h4
end Go.Proofs.Ythacpfijoadclaa
