/- index: the rows of a cache, changes, and what lies of them in memory. -/
import Derived.Test.YtokhnbdhcehonaaGreatProg
import Derived.Test.YtokhnbdhcehonaaGreatSlice
import Derived.Test.YtokhnbdhcehonaaGreatOrd
import Derived.Handy
import Derived.Lib.Hide
import Derived.WalkSpells
import Derived.Deep.RegionLaw
import Derived.Deep.RegionHeld3
import Derived.Deep.MidRow
import Derived.Deep.CutRange
import Derived.Lib.SliceRun
import Derived.Laws.Cover1
set_option linter.unusedSimpArgs false
set_option linter.unusedVariables false
namespace Go.Proofs.YtokhnbdhcehonaaGreat
open Go Go.RowKit
set_option maxRecDepth 100000
/-- values that lie as rows of n cells each -/
class Row (α : Type) where
  cells : α → List Value
  n : Nat
  pos : 0 < n
  len : ∀ x, (cells x).length = n
  one : ∀ x, ∀ v ∈ cells x, v.oneCell' = true
open Row
abbrev arr {α : Type} [Row α] (x : α) : Array Value := (cells x).toArray
structure At where
  t : Int
  m : Int
  l : Int
  u : Int
  g : Int
  z : Int
  d : Int
  e : Int
  c : Int
  i : Int
deriving DecidableEq
structure Hd where
  e : Int
  s : Int
  up : ByteArray
deriving DecidableEq
structure Fl where
  up : ByteArray
  a : At
deriving DecidableEq
structure Nm where
  dir : ByteArray
  name : ByteArray
  up : ByteArray
deriving DecidableEq
structure Bl where
  up : ByteArray
  no : Int
  sl : Int
deriving DecidableEq
structure Ch where
  k : Int
  e : Int
  s : Int
  up : ByteArray
  name : ByteArray
  ch : ByteArray
  a : At
  no : Int
  sl : Int
deriving DecidableEq
def At.zero : At := ⟨0, 0, 0, 0, 0, 0, 0, 0, 0, 0⟩
abbrev At.cells (a : At) : List Value := [.int .i64 a.t, .int .i64 a.m, .int .i64 a.l, .int .i64 a.u, .int .i64 a.g, .int .i64 a.z, .int .i64 a.d, .int .i64 a.e, .int .i64 a.c, .int .i64 a.i]
abbrev Hd.cells (x : Hd) : List Value := [.int .i64 x.e, .int .i64 x.s, .string x.up]
abbrev Fl.cells (x : Fl) : List Value := .string x.up :: x.a.cells
abbrev Nm.cells (x : Nm) : List Value := [.string x.dir, .string x.name, .string x.up]
abbrev Bl.cells (x : Bl) : List Value := [.string x.up, .int .i64 x.no, .int .i64 x.sl]
abbrev Ch.cells (x : Ch) : List Value := [.int .i64 x.k, .int .i64 x.e, .int .i64 x.s, .string x.up, .string x.name, .string x.ch] ++ x.a.cells ++ [.int .i64 x.no, .int .i64 x.sl]
instance : Row At := ⟨At.cells, 10, by decide, fun _ => rfl, fun x v hv => by simp only [At.cells, List.mem_cons, List.not_mem_nil, or_false] at hv; rcases hv with e | e | e | e | e | e | e | e | e | e <;> subst e <;> rfl⟩
instance : Row Hd := ⟨Hd.cells, 3, by decide, fun _ => rfl, fun x v hv => by simp only [Hd.cells, List.mem_cons, List.not_mem_nil, or_false] at hv; rcases hv with e | e | e <;> subst e <;> rfl⟩
instance : Row Fl := ⟨Fl.cells, 11, by decide, fun _ => rfl, fun x v hv => by simp only [Fl.cells, At.cells, List.mem_cons, List.not_mem_nil, or_false] at hv; rcases hv with e | e | e | e | e | e | e | e | e | e | e <;> subst e <;> rfl⟩
instance : Row Nm := ⟨Nm.cells, 3, by decide, fun _ => rfl, fun x v hv => by simp only [Nm.cells, List.mem_cons, List.not_mem_nil, or_false] at hv; rcases hv with e | e | e <;> subst e <;> rfl⟩
instance : Row Bl := ⟨Bl.cells, 3, by decide, fun _ => rfl, fun x v hv => by simp only [Bl.cells, List.mem_cons, List.not_mem_nil, or_false] at hv; rcases hv with e | e | e <;> subst e <;> rfl⟩
instance : Row Ch := ⟨Ch.cells, 18, by decide, fun _ => rfl, fun x v hv => by
  simp only [Ch.cells, At.cells, List.cons_append, List.nil_append, List.mem_cons, List.not_mem_nil, or_false] at hv
  rcases hv with e | e | e | e | e | e | e | e | e | e | e | e | e | e | e | e | e | e <;> subst e <;> rfl⟩
theorem arr_size {α : Type} [Row α] (x : α) : (arr x).size = n α := by simpa [arr] using len x
theorem arr_all {α : Type} [Row α] (x : α) : (arr x).all (·.oneCell') = true := all_oneCell_toArray (one x)
/-- a type of the program that rows of α lie under, and the type of its slices -/
class RowT (α : Type) [Row α] where
  T : TypeId
  d : TypeDesc
  z : α
  bytes : Nat
  hby : bytes ≤ 1000
  hu : Tryz.prog.underlying T = some d
  hd : d.isRow = true
  hinfo : (Tryz.prog.info? T).map (fun i => (i.zero, i.size, i.bytes)) = some (some (.agg (arr z)), n α, bytes)
  hzero : ∀ w, (zeroValue T).run Tryz.prog w = .ok (.agg (arr z)) w
  halloc : ∀ w, (Instr.alloc T true (.tuple #[])).run Tryz.prog w = .ok (.pointer (some ⟨w.heap.size, 0, none⟩)) (w.alloc (.cells (arr z) T))
/-- the type of their slices -/
class RowS (α : Type) [Row α] [RowT α] where
  S : TypeId
  hS : Tryz.prog.underlying S = some (.slice (RowT.T α))
theorem RowT.info {α : Type} [Row α] [RowT α] : ∃ i, Tryz.prog.info? (RowT.T α) = some i ∧ i.zero = some (.agg (arr (RowT.z : α))) ∧ i.size = n α ∧ i.bytes = RowT.bytes α := by
  have h := RowT.hinfo (α := α)
  cases hi : Tryz.prog.info? (RowT.T α) with
  | none => rw [hi] at h; cases h
  | some i =>
    rw [hi] at h
    simp only [Option.map_some, Option.some.injEq, Prod.mk.injEq] at h
    exact ⟨i, rfl, h.1, h.2.1, h.2.2⟩
instance : RowT Hd where
  T := 40
  d := _
  z := ⟨0, 0, ⟨#[]⟩⟩
  bytes := 32
  hby := by decide
  hu := Tryz.underlying40
  hd := rfl
  hinfo := by kernel_rfl
  hzero := fun w => by kernel_rfl
  halloc := fun w => by kernel_rfl
instance : RowS Hd where
  S := 25
  hS := Tryz.underlying25
instance : RowT Fl where
  T := 50
  d := _
  z := ⟨⟨#[]⟩, At.zero⟩
  bytes := 96
  hby := by decide
  hu := Tryz.underlying50
  hd := rfl
  hinfo := by kernel_rfl
  hzero := fun w => by kernel_rfl
  halloc := fun w => by kernel_rfl
instance : RowS Fl where
  S := 26
  hS := Tryz.underlying26
instance : RowT Nm where
  T := 54
  d := _
  z := ⟨⟨#[]⟩, ⟨#[]⟩, ⟨#[]⟩⟩
  bytes := 48
  hby := by decide
  hu := Tryz.underlying54
  hd := rfl
  hinfo := by kernel_rfl
  hzero := fun w => by kernel_rfl
  halloc := fun w => by kernel_rfl
instance : RowS Nm where
  S := 27
  hS := Tryz.underlying27
instance : RowT Bl where
  T := 59
  d := _
  z := ⟨⟨#[]⟩, 0, 0⟩
  bytes := 32
  hby := by decide
  hu := Tryz.underlying59
  hd := rfl
  hinfo := by kernel_rfl
  hzero := fun w => by kernel_rfl
  halloc := fun w => by kernel_rfl
instance : RowS Bl where
  S := 28
  hS := Tryz.underlying28
instance : RowT Ch where
  T := 69
  d := _
  z := ⟨0, 0, 0, ⟨#[]⟩, ⟨#[]⟩, ⟨#[]⟩, At.zero, 0, 0⟩
  bytes := 168
  hby := by decide
  hu := Tryz.underlying69
  hd := rfl
  hinfo := by kernel_rfl
  hzero := fun w => by kernel_rfl
  halloc := fun w => by kernel_rfl
instance : RowS Ch where
  S := 22
  hS := Tryz.underlying22
instance : RowT At where
  T := 45
  d := _
  z := At.zero
  bytes := 80
  hby := by decide
  hu := Tryz.underlying45
  hd := rfl
  hinfo := by kernel_rfl
  hzero := fun w => by kernel_rfl
  halloc := fun w => by kernel_rfl
/-- a slice as it stands in a cell -/
structure Sv where
  A : Option Addr
  n : Nat
  cap : Nat
abbrev Sv.v (s : Sv) : Value := .slice s.A s.n s.cap
/-- a cache as it stands in memory -/
structure Cv where
  a : Sv
  b : Sv
  c : Sv
  d : Sv
abbrev Cv.cells (x : Cv) : List Value := [x.a.v, x.b.v, x.c.v, x.d.v]
instance : Row Cv := ⟨Cv.cells, 4, by decide, fun _ => rfl, fun x v hv => by simp only [Cv.cells, List.mem_cons, List.not_mem_nil, or_false] at hv; rcases hv with e | e | e | e <;> subst e <;> rfl⟩
instance : RowT Cv where
  T := 30
  d := _
  z := ⟨⟨none, 0, 0⟩, ⟨none, 0, 0⟩, ⟨none, 0, 0⟩, ⟨none, 0, 0⟩⟩
  bytes := 96
  hby := by decide
  hu := Tryz.underlying30
  hd := rfl
  hinfo := by kernel_rfl
  hzero := fun w => by kernel_rfl
  halloc := fun w => by kernel_rfl
end Go.Proofs.YtokhnbdhcehonaaGreat
