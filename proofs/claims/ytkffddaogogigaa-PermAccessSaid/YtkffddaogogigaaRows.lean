/-
  No cell of these rows narrows 'for every input' (looked for: loops, veiled, ifaces, maps, wideKeys, modest, calm, conditions, laid).
  DERIVED. THE GIVEN ROWS OF THIS SEAT. 5 by the template 'for every input the law returns true; each argument reads behind the call as it read before'; 0 by the template 'total and deterministic' (their statements: YtkffddaogogigaaTotals.lean).
  GIVEN WITH THE SEED: the statements are not yours to turn. If you find one false, say at which input.
  Laid BY PROGRAM, IN A SANDBOX (cutbox-rows.mjs): the forced cells as the released guide's own fill.sh prints them over the translation 9f1c460d237e8edb… (all of the seat's roots in one cut). By AI agents, Wed Nov 11 2026. No macro, syntax, notation, axiom, sorry.
-/
import Derived.Test.YtkffddaogogigaaChecked
import GoSem.Claim
import GoSem.ClaimJoined
import GoSem.ClaimMapViews
import Derived.JoinedTies
import Derived.KernelRfl
namespace Go.Proofs.Ytkffddaogogigaa
/- THE CELL 'sum', in the pinned program and in every row, IS THE sha256 OF THE DUMP (.gsa) THAT YtkffddaogogigaaProg.lean LOADS. Nothing in Lean hashes anything: it is a label: what it is worth is what the hold of that sum in a sandbox is worth. -/
noncomputable def Try.pinned : Pinned := { name := "ytkffddaogogigaa", sum := "9f1c460d237e8edb41aeba63becf0e9850e90c065726b5aacae12e30e6cb67e5", checked := Try.checked }
namespace Rows
def none {H : Type} : Left H := { results := [], args := [] }

/-- 'posthouselaw06.PermLess': WHATEVER THE INPUT: true; the input reads as it did. -/
def permLessSpec : ChangeSpec := { name := "permLess", fn := fun _ => fun
  | [d1, d2, d3, d4] => { results := [.lit (.bool true)], args := [d1, d2, d3, d4] }
  | _ => none }
def permLessRow : OpenClaim := { program := "ytkffddaogogigaa", sum := "9f1c460d237e8edb41aeba63becf0e9850e90c065726b5aacae12e30e6cb67e5", func := "posthouse/posthouselaw06.PermLess", spec := "permLess", apart := false }
def PermLessSaid : Prop := permLessRow.holds Try.pinned (OpenSpec.ofChange permLessSpec)

/-- ITS FALSE NEIGHBOUR: 'it returns false'. Refute it at one input. -/
def permLessWrong : ChangeSpec := { name := "permLess", fn := fun _ => fun
  | [d1, d2, d3, d4] => { results := [.lit (.bool false)], args := [d1, d2, d3, d4] }
  | _ => none }
def PermLessWrongFalsely : Prop := permLessRow.holds Try.pinned (OpenSpec.ofChange permLessWrong)

/-- 'posthouselaw06.PermBits': WHATEVER THE INPUT: true; the input reads as it did. -/
def permBitsSpec : ChangeSpec := { name := "permBits", fn := fun _ => fun
  | [d1, d2, d3] => { results := [.lit (.bool true)], args := [d1, d2, d3] }
  | _ => none }
def permBitsRow : OpenClaim := { program := "ytkffddaogogigaa", sum := "9f1c460d237e8edb41aeba63becf0e9850e90c065726b5aacae12e30e6cb67e5", func := "posthouse/posthouselaw06.PermBits", spec := "permBits", apart := false }
def PermBitsSaid : Prop := permBitsRow.holds Try.pinned (OpenSpec.ofChange permBitsSpec)

/-- ITS FALSE NEIGHBOUR: 'it returns false'. Refute it at one input. -/
def permBitsWrong : ChangeSpec := { name := "permBits", fn := fun _ => fun
  | [d1, d2, d3] => { results := [.lit (.bool false)], args := [d1, d2, d3] }
  | _ => none }
def PermBitsWrongFalsely : Prop := permBitsRow.holds Try.pinned (OpenSpec.ofChange permBitsWrong)

/-- 'posthouselaw06.PermShows': WHATEVER THE INPUT: true; the input reads as it did. -/
def permShowsSpec : ChangeSpec := { name := "permShows", fn := fun _ => fun
  | [d] => { results := [.lit (.bool true)], args := [d] }
  | _ => none }
def permShowsRow : OpenClaim := { program := "ytkffddaogogigaa", sum := "9f1c460d237e8edb41aeba63becf0e9850e90c065726b5aacae12e30e6cb67e5", func := "posthouse/posthouselaw06.PermShows", spec := "permShows", apart := false }
def PermShowsSaid : Prop := permShowsRow.holds Try.pinned (OpenSpec.ofChange permShowsSpec)

/-- ITS FALSE NEIGHBOUR: 'it returns false'. Refute it at one input. -/
def permShowsWrong : ChangeSpec := { name := "permShows", fn := fun _ => fun
  | [d] => { results := [.lit (.bool false)], args := [d] }
  | _ => none }
def PermShowsWrongFalsely : Prop := permShowsRow.holds Try.pinned (OpenSpec.ofChange permShowsWrong)

/-- 'posthouselaw06.PermModes': WHATEVER THE INPUT: true; the input reads as it did. -/
def permModesSpec : ChangeSpec := { name := "permModes", fn := fun _ => fun
  | [d] => { results := [.lit (.bool true)], args := [d] }
  | _ => none }
def permModesRow : OpenClaim := { program := "ytkffddaogogigaa", sum := "9f1c460d237e8edb41aeba63becf0e9850e90c065726b5aacae12e30e6cb67e5", func := "posthouse/posthouselaw06.PermModes", spec := "permModes", apart := false }
def PermModesSaid : Prop := permModesRow.holds Try.pinned (OpenSpec.ofChange permModesSpec)

/-- ITS FALSE NEIGHBOUR: 'it returns false'. Refute it at one input. -/
def permModesWrong : ChangeSpec := { name := "permModes", fn := fun _ => fun
  | [d] => { results := [.lit (.bool false)], args := [d] }
  | _ => none }
def PermModesWrongFalsely : Prop := permModesRow.holds Try.pinned (OpenSpec.ofChange permModesWrong)

/-- 'posthouselaw06.PermAccess': WHATEVER THE INPUT: true; the input reads as it did. -/
def permAccessSpec : ChangeSpec := { name := "permAccess", fn := fun _ => fun
  | [d1, d2, d3, d4] => { results := [.lit (.bool true)], args := [d1, d2, d3, d4] }
  | _ => none }
def permAccessRow : OpenClaim := { program := "ytkffddaogogigaa", sum := "9f1c460d237e8edb41aeba63becf0e9850e90c065726b5aacae12e30e6cb67e5", func := "posthouse/posthouselaw06.PermAccess", spec := "permAccess", unfollowed := true, recurses := true, apart := false }
def PermAccessSaid : Prop := permAccessRow.holds Try.pinned (OpenSpec.ofChange permAccessSpec)

/-- ITS FALSE NEIGHBOUR: 'it returns false'. Refute it at one input. -/
def permAccessWrong : ChangeSpec := { name := "permAccess", fn := fun _ => fun
  | [d1, d2, d3, d4] => { results := [.lit (.bool false)], args := [d1, d2, d3, d4] }
  | _ => none }
def PermAccessWrongFalsely : Prop := permAccessRow.holds Try.pinned (OpenSpec.ofChange permAccessWrong)

/- THE SECOND FORM. 'bulk': how many values and letters a reading holds, each counted each time it is reached (what is shared counts as often as it is met; a slice's spare places count too). A statement '..UptoSaid' is the law's where the arguments, and the package variables that the reading takes, are together of bulk at most 1048576: NARROWER than '..Said'. Prove '..Said' where nothing that the law and all that it calls make is longer than what came in: it says more and counts as full. Else prove '..UptoSaid'. A law counts once. -/
mutual
def uptoBulk {H : Type} : DataW H → Nat
  | .lit (.string bytes) => bytes.length + 1
  | .lit _ => 1
  | .nil => 1
  | .ptr d => uptoBulk d + 1
  | .slice elems spare => uptoBulkAll elems + uptoBulkAll spare + 1
  | .agg parts => uptoBulkAll parts + 1
  | .iface _ d => uptoBulk d + 1
  | .map entries => uptoBulkEntries entries + 1
  | .held _ => 1
def uptoBulkAll {H : Type} : List (DataW H) → Nat
  | [] => 0
  | d :: r => uptoBulk d + uptoBulkAll r
def uptoBulkEntries {H : Type} : List (Lit × DataW H) → Nat
  | [] => 0
  | x :: r => uptoBulkEntry x + uptoBulkEntries r
def uptoBulkEntry {H : Type} : Lit × DataW H → Nat
  | (.string bytes, d) => bytes.length + uptoBulk d + 1
  | (_, d) => uptoBulk d + 1
 end
def uptoSmall : (H : Type) → List (DataW H) → Bool := fun _ ds => decide (uptoBulkAll ds ≤ 1048576)
def OpenSpec.upto (s : _root_.Go.ChangeSpec) : _root_.Go.OpenSpec := { _root_.Go.OpenSpec.ofChange s with cond := some uptoSmall }

/-- 'posthouselaw06.PermLess', WHERE WHAT IT READS IS OF BULK AT MOST 1048576: true; the input reads as it did. -/
def permLessUptoRow : OpenClaim := { program := "ytkffddaogogigaa", sum := "9f1c460d237e8edb41aeba63becf0e9850e90c065726b5aacae12e30e6cb67e5", func := "posthouse/posthouselaw06.PermLess", spec := "permLess", apart := false, narrowed := true }
def PermLessUptoSaid : Prop := permLessUptoRow.holds Try.pinned (OpenSpec.upto permLessSpec)

/-- 'posthouselaw06.PermBits', WHERE WHAT IT READS IS OF BULK AT MOST 1048576: true; the input reads as it did. -/
def permBitsUptoRow : OpenClaim := { program := "ytkffddaogogigaa", sum := "9f1c460d237e8edb41aeba63becf0e9850e90c065726b5aacae12e30e6cb67e5", func := "posthouse/posthouselaw06.PermBits", spec := "permBits", apart := false, narrowed := true }
def PermBitsUptoSaid : Prop := permBitsUptoRow.holds Try.pinned (OpenSpec.upto permBitsSpec)

/-- 'posthouselaw06.PermShows', WHERE WHAT IT READS IS OF BULK AT MOST 1048576: true; the input reads as it did. -/
def permShowsUptoRow : OpenClaim := { program := "ytkffddaogogigaa", sum := "9f1c460d237e8edb41aeba63becf0e9850e90c065726b5aacae12e30e6cb67e5", func := "posthouse/posthouselaw06.PermShows", spec := "permShows", apart := false, narrowed := true }
def PermShowsUptoSaid : Prop := permShowsUptoRow.holds Try.pinned (OpenSpec.upto permShowsSpec)

/-- 'posthouselaw06.PermModes', WHERE WHAT IT READS IS OF BULK AT MOST 1048576: true; the input reads as it did. -/
def permModesUptoRow : OpenClaim := { program := "ytkffddaogogigaa", sum := "9f1c460d237e8edb41aeba63becf0e9850e90c065726b5aacae12e30e6cb67e5", func := "posthouse/posthouselaw06.PermModes", spec := "permModes", apart := false, narrowed := true }
def PermModesUptoSaid : Prop := permModesUptoRow.holds Try.pinned (OpenSpec.upto permModesSpec)

/-- 'posthouselaw06.PermAccess', WHERE WHAT IT READS IS OF BULK AT MOST 1048576: true; the input reads as it did. -/
def permAccessUptoRow : OpenClaim := { program := "ytkffddaogogigaa", sum := "9f1c460d237e8edb41aeba63becf0e9850e90c065726b5aacae12e30e6cb67e5", func := "posthouse/posthouselaw06.PermAccess", spec := "permAccess", unfollowed := true, recurses := true, apart := false, narrowed := true }
def PermAccessUptoSaid : Prop := permAccessUptoRow.holds Try.pinned (OpenSpec.upto permAccessSpec)

end Rows
end Go.Proofs.Ytkffddaogogigaa
