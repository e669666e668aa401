/-
  No cell of these rows narrows 'for every input' (looked for: loops, veiled, ifaces, maps, wideKeys, modest, calm, conditions, laid).
  DERIVED. THE GIVEN ROWS OF THIS SEAT. 6 by the template 'for every input the law returns true; each argument reads behind the call as it read before'; 0 by the template 'total and deterministic' (their statements: YtokhnbdhcehonaaGreatTotals.lean).
  GIVEN WITH THE SEED: the statements are not yours to turn. If you find one false, say at which input.
  Laid BY PROGRAM, IN A SANDBOX (cutbox-rows.mjs): the forced cells as the released guide's own fill.sh prints them over the translation 9b645a94819afa4a… (all of the seat's roots in one cut). By AI agents, Wed Nov 11 2026. No macro, syntax, notation, axiom, sorry.
-/
import Derived.Test.YtokhnbdhcehonaaGreatChecked
import GoSem.Claim
import GoSem.ClaimJoined
import GoSem.ClaimMapViews
import Derived.JoinedTies
import Derived.KernelRfl
namespace Go.Proofs.YtokhnbdhcehonaaGreat
/- THE CELL 'sum', in the pinned program and in every row, IS THE sha256 OF THE DUMP (.gsa) THAT YtokhnbdhcehonaaGreatProg.lean LOADS. Nothing in Lean hashes anything: it is a label: what it is worth is what the hold of that sum in a sandbox is worth. -/
noncomputable def Tryz.pinned : Pinned := { name := "ytokhnbdhcehonaagreat", sum := "9b645a94819afa4a0bd085312fff5a2f1d882466a035325e3613120d4653f2bd", checked := Tryz.checked }
namespace Rows
def none {H : Type} : Left H := { results := [], args := [] }

/-- 'posthouselaw18.IndexAll': WHATEVER THE INPUT: true; the input reads as it did. -/
def indexAllSpec : ChangeSpec := { name := "indexAll", fn := fun _ => fun
  | [d1, d2] => { results := [.lit (.bool true)], args := [d1, d2] }
  | _ => none }
def indexAllRow : OpenClaim := { program := "ytokhnbdhcehonaagreat", sum := "9b645a94819afa4a0bd085312fff5a2f1d882466a035325e3613120d4653f2bd", func := "posthouse/posthouselaw18.IndexAll", spec := "indexAll", inPlace := ["slices.overlaps[posthouse/api.Placed]", "slices.overlaps[posthouse/api.Held]", "slices.overlaps[posthouse/api.Cached]", "slices.overlaps[posthouse/api.Known]"], unfollowed := true, recurses := true, apart := false }
def IndexAllSaid : Prop := indexAllRow.holds Tryz.pinned (OpenSpec.ofChange indexAllSpec)

/-- ITS FALSE NEIGHBOUR: 'it returns false'. Refute it at one input. -/
def indexAllWrong : ChangeSpec := { name := "indexAll", fn := fun _ => fun
  | [d1, d2] => { results := [.lit (.bool false)], args := [d1, d2] }
  | _ => none }
def IndexAllWrongFalsely : Prop := indexAllRow.holds Tryz.pinned (OpenSpec.ofChange indexAllWrong)

/-- 'posthouselaw18.IndexAsks': WHATEVER THE INPUT: true; the input reads as it did. -/
def indexAsksSpec : ChangeSpec := { name := "indexAsks", fn := fun _ => fun
  | [d1, d2, d3, d4, d5] => { results := [.lit (.bool true)], args := [d1, d2, d3, d4, d5] }
  | _ => none }
def indexAsksRow : OpenClaim := { program := "ytokhnbdhcehonaagreat", sum := "9b645a94819afa4a0bd085312fff5a2f1d882466a035325e3613120d4653f2bd", func := "posthouse/posthouselaw18.IndexAsks", spec := "indexAsks", inPlace := ["slices.overlaps[posthouse/api.Placed]", "slices.overlaps[posthouse/api.Held]", "slices.overlaps[posthouse/api.Cached]", "slices.overlaps[posthouse/api.Known]"], unfollowed := true, recurses := true, apart := false }
def IndexAsksSaid : Prop := indexAsksRow.holds Tryz.pinned (OpenSpec.ofChange indexAsksSpec)

/-- ITS FALSE NEIGHBOUR: 'it returns false'. Refute it at one input. -/
def indexAsksWrong : ChangeSpec := { name := "indexAsks", fn := fun _ => fun
  | [d1, d2, d3, d4, d5] => { results := [.lit (.bool false)], args := [d1, d2, d3, d4, d5] }
  | _ => none }
def IndexAsksWrongFalsely : Prop := indexAsksRow.holds Tryz.pinned (OpenSpec.ofChange indexAsksWrong)

/-- 'posthouselaw18.IndexMakes': WHATEVER THE INPUT: true; the input reads as it did. -/
def indexMakesSpec : ChangeSpec := { name := "indexMakes", fn := fun _ => fun
  | [d] => { results := [.lit (.bool true)], args := [d] }
  | _ => none }
def indexMakesRow : OpenClaim := { program := "ytokhnbdhcehonaagreat", sum := "9b645a94819afa4a0bd085312fff5a2f1d882466a035325e3613120d4653f2bd", func := "posthouse/posthouselaw18.IndexMakes", spec := "indexMakes", inPlace := ["slices.overlaps[posthouse/api.Placed]", "slices.overlaps[posthouse/api.Held]", "slices.overlaps[posthouse/api.Cached]", "slices.overlaps[posthouse/api.Known]"], unfollowed := true, recurses := true, apart := false }
def IndexMakesSaid : Prop := indexMakesRow.holds Tryz.pinned (OpenSpec.ofChange indexMakesSpec)

/-- ITS FALSE NEIGHBOUR: 'it returns false'. Refute it at one input. -/
def indexMakesWrong : ChangeSpec := { name := "indexMakes", fn := fun _ => fun
  | [d] => { results := [.lit (.bool false)], args := [d] }
  | _ => none }
def IndexMakesWrongFalsely : Prop := indexMakesRow.holds Tryz.pinned (OpenSpec.ofChange indexMakesWrong)

/-- 'posthouselaw18.IndexChecks': WHATEVER THE INPUT: true; the input reads as it did. -/
def indexChecksSpec : ChangeSpec := { name := "indexChecks", fn := fun _ => fun
  | [d] => { results := [.lit (.bool true)], args := [d] }
  | _ => none }
def indexChecksRow : OpenClaim := { program := "ytokhnbdhcehonaagreat", sum := "9b645a94819afa4a0bd085312fff5a2f1d882466a035325e3613120d4653f2bd", func := "posthouse/posthouselaw18.IndexChecks", spec := "indexChecks", inPlace := ["slices.overlaps[posthouse/api.Placed]", "slices.overlaps[posthouse/api.Held]", "slices.overlaps[posthouse/api.Cached]", "slices.overlaps[posthouse/api.Known]"], unfollowed := true, recurses := true, apart := false }
def IndexChecksSaid : Prop := indexChecksRow.holds Tryz.pinned (OpenSpec.ofChange indexChecksSpec)

/-- ITS FALSE NEIGHBOUR: 'it returns false'. Refute it at one input. -/
def indexChecksWrong : ChangeSpec := { name := "indexChecks", fn := fun _ => fun
  | [d] => { results := [.lit (.bool false)], args := [d] }
  | _ => none }
def IndexChecksWrongFalsely : Prop := indexChecksRow.holds Tryz.pinned (OpenSpec.ofChange indexChecksWrong)

/-- 'posthouselaw18.IndexApplies': WHATEVER THE INPUT: true; the input reads as it did. -/
def indexAppliesSpec : ChangeSpec := { name := "indexApplies", fn := fun _ => fun
  | [d] => { results := [.lit (.bool true)], args := [d] }
  | _ => none }
def indexAppliesRow : OpenClaim := { program := "ytokhnbdhcehonaagreat", sum := "9b645a94819afa4a0bd085312fff5a2f1d882466a035325e3613120d4653f2bd", func := "posthouse/posthouselaw18.IndexApplies", spec := "indexApplies", inPlace := ["slices.overlaps[posthouse/api.Placed]", "slices.overlaps[posthouse/api.Held]", "slices.overlaps[posthouse/api.Cached]", "slices.overlaps[posthouse/api.Known]"], unfollowed := true, recurses := true, apart := false }
def IndexAppliesSaid : Prop := indexAppliesRow.holds Tryz.pinned (OpenSpec.ofChange indexAppliesSpec)

/-- ITS FALSE NEIGHBOUR: 'it returns false'. Refute it at one input. -/
def indexAppliesWrong : ChangeSpec := { name := "indexApplies", fn := fun _ => fun
  | [d] => { results := [.lit (.bool false)], args := [d] }
  | _ => none }
def IndexAppliesWrongFalsely : Prop := indexAppliesRow.holds Tryz.pinned (OpenSpec.ofChange indexAppliesWrong)

/-- 'posthouselaw18.IndexLost': WHATEVER THE INPUT: true; the input reads as it did. -/
def indexLostSpec : ChangeSpec := { name := "indexLost", fn := fun _ => fun
  | [d1, d2] => { results := [.lit (.bool true)], args := [d1, d2] }
  | _ => none }
def indexLostRow : OpenClaim := { program := "ytokhnbdhcehonaagreat", sum := "9b645a94819afa4a0bd085312fff5a2f1d882466a035325e3613120d4653f2bd", func := "posthouse/posthouselaw18.IndexLost", spec := "indexLost", inPlace := ["slices.overlaps[posthouse/api.Placed]", "slices.overlaps[posthouse/api.Held]", "slices.overlaps[posthouse/api.Cached]", "slices.overlaps[posthouse/api.Known]"], unfollowed := true, recurses := true, apart := false }
def IndexLostSaid : Prop := indexLostRow.holds Tryz.pinned (OpenSpec.ofChange indexLostSpec)

/-- ITS FALSE NEIGHBOUR: 'it returns false'. Refute it at one input. -/
def indexLostWrong : ChangeSpec := { name := "indexLost", fn := fun _ => fun
  | [d1, d2] => { results := [.lit (.bool false)], args := [d1, d2] }
  | _ => none }
def IndexLostWrongFalsely : Prop := indexLostRow.holds Tryz.pinned (OpenSpec.ofChange indexLostWrong)

/- THE SECOND FORM. 'bulk': how many values and letters a reading holds, each counted each time it is reached (what is shared counts as often as it is met; a slice's spare places count too). A statement '..UptoSaid' is the law's where the arguments, and the package variables that the reading takes, are together of bulk at most 1048576: NARROWER than '..Said'. Prove '..Said' where nothing that the law and all that it calls make is longer than what came in: it says more and counts as full. Else prove '..UptoSaid'. A law counts once. -/
mutual
def uptoBulk {H : Type} : DataW H → Nat
  | .lit (.string bytes) => bytes.length + 1
  | .lit _ => 1
  | .nil => 1
  | .ptr d => uptoBulk d + 1
  | .slice elems spare => uptoBulkAll elems + uptoBulkAll spare + 1
  | .agg parts => uptoBulkAll parts + 1
  | .iface _ d => uptoBulk d + 1
  | .map entries => uptoBulkEntries entries + 1
  | .held _ => 1
def uptoBulkAll {H : Type} : List (DataW H) → Nat
  | [] => 0
  | d :: r => uptoBulk d + uptoBulkAll r
def uptoBulkEntries {H : Type} : List (Lit × DataW H) → Nat
  | [] => 0
  | x :: r => uptoBulkEntry x + uptoBulkEntries r
def uptoBulkEntry {H : Type} : Lit × DataW H → Nat
  | (.string bytes, d) => bytes.length + uptoBulk d + 1
  | (_, d) => uptoBulk d + 1
 end
def uptoSmall : (H : Type) → List (DataW H) → Bool := fun _ ds => decide (uptoBulkAll ds ≤ 1048576)
def OpenSpec.upto (s : _root_.Go.ChangeSpec) : _root_.Go.OpenSpec := { _root_.Go.OpenSpec.ofChange s with cond := some uptoSmall }

/-- 'posthouselaw18.IndexAll', WHERE WHAT IT READS IS OF BULK AT MOST 1048576: true; the input reads as it did. -/
def indexAllUptoRow : OpenClaim := { program := "ytokhnbdhcehonaagreat", sum := "9b645a94819afa4a0bd085312fff5a2f1d882466a035325e3613120d4653f2bd", func := "posthouse/posthouselaw18.IndexAll", spec := "indexAll", inPlace := ["slices.overlaps[posthouse/api.Placed]", "slices.overlaps[posthouse/api.Held]", "slices.overlaps[posthouse/api.Cached]", "slices.overlaps[posthouse/api.Known]"], unfollowed := true, recurses := true, apart := false, narrowed := true }
def IndexAllUptoSaid : Prop := indexAllUptoRow.holds Tryz.pinned (OpenSpec.upto indexAllSpec)

/-- 'posthouselaw18.IndexAsks', WHERE WHAT IT READS IS OF BULK AT MOST 1048576: true; the input reads as it did. -/
def indexAsksUptoRow : OpenClaim := { program := "ytokhnbdhcehonaagreat", sum := "9b645a94819afa4a0bd085312fff5a2f1d882466a035325e3613120d4653f2bd", func := "posthouse/posthouselaw18.IndexAsks", spec := "indexAsks", inPlace := ["slices.overlaps[posthouse/api.Placed]", "slices.overlaps[posthouse/api.Held]", "slices.overlaps[posthouse/api.Cached]", "slices.overlaps[posthouse/api.Known]"], unfollowed := true, recurses := true, apart := false, narrowed := true }
def IndexAsksUptoSaid : Prop := indexAsksUptoRow.holds Tryz.pinned (OpenSpec.upto indexAsksSpec)

/-- 'posthouselaw18.IndexMakes', WHERE WHAT IT READS IS OF BULK AT MOST 1048576: true; the input reads as it did. -/
def indexMakesUptoRow : OpenClaim := { program := "ytokhnbdhcehonaagreat", sum := "9b645a94819afa4a0bd085312fff5a2f1d882466a035325e3613120d4653f2bd", func := "posthouse/posthouselaw18.IndexMakes", spec := "indexMakes", inPlace := ["slices.overlaps[posthouse/api.Placed]", "slices.overlaps[posthouse/api.Held]", "slices.overlaps[posthouse/api.Cached]", "slices.overlaps[posthouse/api.Known]"], unfollowed := true, recurses := true, apart := false, narrowed := true }
def IndexMakesUptoSaid : Prop := indexMakesUptoRow.holds Tryz.pinned (OpenSpec.upto indexMakesSpec)

/-- 'posthouselaw18.IndexChecks', WHERE WHAT IT READS IS OF BULK AT MOST 1048576: true; the input reads as it did. -/
def indexChecksUptoRow : OpenClaim := { program := "ytokhnbdhcehonaagreat", sum := "9b645a94819afa4a0bd085312fff5a2f1d882466a035325e3613120d4653f2bd", func := "posthouse/posthouselaw18.IndexChecks", spec := "indexChecks", inPlace := ["slices.overlaps[posthouse/api.Placed]", "slices.overlaps[posthouse/api.Held]", "slices.overlaps[posthouse/api.Cached]", "slices.overlaps[posthouse/api.Known]"], unfollowed := true, recurses := true, apart := false, narrowed := true }
def IndexChecksUptoSaid : Prop := indexChecksUptoRow.holds Tryz.pinned (OpenSpec.upto indexChecksSpec)

/-- 'posthouselaw18.IndexApplies', WHERE WHAT IT READS IS OF BULK AT MOST 1048576: true; the input reads as it did. -/
def indexAppliesUptoRow : OpenClaim := { program := "ytokhnbdhcehonaagreat", sum := "9b645a94819afa4a0bd085312fff5a2f1d882466a035325e3613120d4653f2bd", func := "posthouse/posthouselaw18.IndexApplies", spec := "indexApplies", inPlace := ["slices.overlaps[posthouse/api.Placed]", "slices.overlaps[posthouse/api.Held]", "slices.overlaps[posthouse/api.Cached]", "slices.overlaps[posthouse/api.Known]"], unfollowed := true, recurses := true, apart := false, narrowed := true }
def IndexAppliesUptoSaid : Prop := indexAppliesUptoRow.holds Tryz.pinned (OpenSpec.upto indexAppliesSpec)

/-- 'posthouselaw18.IndexLost', WHERE WHAT IT READS IS OF BULK AT MOST 1048576: true; the input reads as it did. -/
def indexLostUptoRow : OpenClaim := { program := "ytokhnbdhcehonaagreat", sum := "9b645a94819afa4a0bd085312fff5a2f1d882466a035325e3613120d4653f2bd", func := "posthouse/posthouselaw18.IndexLost", spec := "indexLost", inPlace := ["slices.overlaps[posthouse/api.Placed]", "slices.overlaps[posthouse/api.Held]", "slices.overlaps[posthouse/api.Cached]", "slices.overlaps[posthouse/api.Known]"], unfollowed := true, recurses := true, apart := false, narrowed := true }
def IndexLostUptoSaid : Prop := indexLostUptoRow.holds Tryz.pinned (OpenSpec.upto indexLostSpec)

end Rows
end Go.Proofs.YtokhnbdhcehonaaGreat
