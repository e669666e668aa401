/-
  No cell of these rows narrows 'for every input' (looked for: loops, veiled, ifaces, maps, wideKeys, modest, calm, conditions, laid).
  DERIVED. THE GIVEN ROWS OF THIS SEAT. 3 by the template 'for every input the law returns true; each argument reads behind the call as it read before'; 0 by the template 'total and deterministic' (their statements: YtigdpmbhflojcaaTotals.lean).
  GIVEN WITH THE SEED: the statements are not yours to turn. If you find one false, say at which input.
  Laid BY PROGRAM, IN A SANDBOX (cutbox-rows.mjs): the forced cells as the released guide's own fill.sh prints them over the translation 2e765967039e3b7d… (all of the seat's roots in one cut). By AI agents, Wed Nov 11 2026. No macro, syntax, notation, axiom, sorry.
-/
import Derived.Test.YtigdpmbhflojcaaChecked
import GoSem.Claim
import GoSem.ClaimJoined
import GoSem.ClaimMapViews
import Derived.JoinedTies
import Derived.KernelRfl
namespace Go.Proofs.Ytigdpmbhflojcaa
/- THE CELL 'sum', in the pinned program and in every row, IS THE sha256 OF THE DUMP (.gsa) THAT YtigdpmbhflojcaaProg.lean LOADS. Nothing in Lean hashes anything: it is a label: what it is worth is what the hold of that sum in a sandbox is worth. -/
noncomputable def Try.pinned : Pinned := { name := "ytigdpmbhflojcaa", sum := "2e765967039e3b7da6f258924492e431014773c8fa3287f82a95efe24bd6e171", checked := Try.checked }
namespace Rows
def none {H : Type} : Left H := { results := [], args := [] }

/-- 'posthouselaw27.ReplayKeeps': WHATEVER THE INPUT: true; the input reads as it did. -/
def replayKeepsSpec : ChangeSpec := { name := "replayKeeps", fn := fun _ => fun
  | [d1, d2, d3] => { results := [.lit (.bool true)], args := [d1, d2, d3] }
  | _ => none }
def replayKeepsRow : OpenClaim := { program := "ytigdpmbhflojcaa", sum := "2e765967039e3b7da6f258924492e431014773c8fa3287f82a95efe24bd6e171", func := "posthouse/posthouselaw27.ReplayKeeps", spec := "replayKeeps", apart := false }
def ReplayKeepsSaid : Prop := replayKeepsRow.holds Try.pinned (OpenSpec.ofChange replayKeepsSpec)

/-- ITS FALSE NEIGHBOUR: 'it returns false'. Refute it at one input. -/
def replayKeepsWrong : ChangeSpec := { name := "replayKeeps", fn := fun _ => fun
  | [d1, d2, d3] => { results := [.lit (.bool false)], args := [d1, d2, d3] }
  | _ => none }
def ReplayKeepsWrongFalsely : Prop := replayKeepsRow.holds Try.pinned (OpenSpec.ofChange replayKeepsWrong)

/-- 'posthouselaw27.ReplayStays': WHATEVER THE INPUT: true; the input reads as it did. -/
def replayStaysSpec : ChangeSpec := { name := "replayStays", fn := fun _ => fun
  | [d1, d2] => { results := [.lit (.bool true)], args := [d1, d2] }
  | _ => none }
def replayStaysRow : OpenClaim := { program := "ytigdpmbhflojcaa", sum := "2e765967039e3b7da6f258924492e431014773c8fa3287f82a95efe24bd6e171", func := "posthouse/posthouselaw27.ReplayStays", spec := "replayStays", apart := false }
def ReplayStaysSaid : Prop := replayStaysRow.holds Try.pinned (OpenSpec.ofChange replayStaysSpec)

/-- ITS FALSE NEIGHBOUR: 'it returns false'. Refute it at one input. -/
def replayStaysWrong : ChangeSpec := { name := "replayStays", fn := fun _ => fun
  | [d1, d2] => { results := [.lit (.bool false)], args := [d1, d2] }
  | _ => none }
def ReplayStaysWrongFalsely : Prop := replayStaysRow.holds Try.pinned (OpenSpec.ofChange replayStaysWrong)

/-- 'posthouselaw27.ReplayNil': WHATEVER THE INPUT: true; the input reads as it did. -/
def replayNilSpec : ChangeSpec := { name := "replayNil", fn := fun _ => fun
  | [d1, d2, d3] => { results := [.lit (.bool true)], args := [d1, d2, d3] }
  | _ => none }
def replayNilRow : OpenClaim := { program := "ytigdpmbhflojcaa", sum := "2e765967039e3b7da6f258924492e431014773c8fa3287f82a95efe24bd6e171", func := "posthouse/posthouselaw27.ReplayNil", spec := "replayNil", apart := false }
def ReplayNilSaid : Prop := replayNilRow.holds Try.pinned (OpenSpec.ofChange replayNilSpec)

/-- ITS FALSE NEIGHBOUR: 'it returns false'. Refute it at one input. -/
def replayNilWrong : ChangeSpec := { name := "replayNil", fn := fun _ => fun
  | [d1, d2, d3] => { results := [.lit (.bool false)], args := [d1, d2, d3] }
  | _ => none }
def ReplayNilWrongFalsely : Prop := replayNilRow.holds Try.pinned (OpenSpec.ofChange replayNilWrong)

/- THE SECOND FORM. 'bulk': how many values and letters a reading holds, each counted each time it is reached (what is shared counts as often as it is met; a slice's spare places count too). A statement '..UptoSaid' is the law's where the arguments, and the package variables that the reading takes, are together of bulk at most 1048576: NARROWER than '..Said'. Prove '..Said' where nothing that the law and all that it calls make is longer than what came in: it says more and counts as full. Else prove '..UptoSaid'. A law counts once. -/
mutual
def uptoBulk {H : Type} : DataW H → Nat
  | .lit (.string bytes) => bytes.length + 1
  | .lit _ => 1
  | .nil => 1
  | .ptr d => uptoBulk d + 1
  | .slice elems spare => uptoBulkAll elems + uptoBulkAll spare + 1
  | .agg parts => uptoBulkAll parts + 1
  | .iface _ d => uptoBulk d + 1
  | .map entries => uptoBulkEntries entries + 1
  | .held _ => 1
def uptoBulkAll {H : Type} : List (DataW H) → Nat
  | [] => 0
  | d :: r => uptoBulk d + uptoBulkAll r
def uptoBulkEntries {H : Type} : List (Lit × DataW H) → Nat
  | [] => 0
  | x :: r => uptoBulkEntry x + uptoBulkEntries r
def uptoBulkEntry {H : Type} : Lit × DataW H → Nat
  | (.string bytes, d) => bytes.length + uptoBulk d + 1
  | (_, d) => uptoBulk d + 1
 end
def uptoSmall : (H : Type) → List (DataW H) → Bool := fun _ ds => decide (uptoBulkAll ds ≤ 1048576)
def OpenSpec.upto (s : _root_.Go.ChangeSpec) : _root_.Go.OpenSpec := { _root_.Go.OpenSpec.ofChange s with cond := some uptoSmall }

/-- 'posthouselaw27.ReplayKeeps', WHERE WHAT IT READS IS OF BULK AT MOST 1048576: true; the input reads as it did. -/
def replayKeepsUptoRow : OpenClaim := { program := "ytigdpmbhflojcaa", sum := "2e765967039e3b7da6f258924492e431014773c8fa3287f82a95efe24bd6e171", func := "posthouse/posthouselaw27.ReplayKeeps", spec := "replayKeeps", apart := false, narrowed := true }
def ReplayKeepsUptoSaid : Prop := replayKeepsUptoRow.holds Try.pinned (OpenSpec.upto replayKeepsSpec)

/-- 'posthouselaw27.ReplayStays', WHERE WHAT IT READS IS OF BULK AT MOST 1048576: true; the input reads as it did. -/
def replayStaysUptoRow : OpenClaim := { program := "ytigdpmbhflojcaa", sum := "2e765967039e3b7da6f258924492e431014773c8fa3287f82a95efe24bd6e171", func := "posthouse/posthouselaw27.ReplayStays", spec := "replayStays", apart := false, narrowed := true }
def ReplayStaysUptoSaid : Prop := replayStaysUptoRow.holds Try.pinned (OpenSpec.upto replayStaysSpec)

/-- 'posthouselaw27.ReplayNil', WHERE WHAT IT READS IS OF BULK AT MOST 1048576: true; the input reads as it did. -/
def replayNilUptoRow : OpenClaim := { program := "ytigdpmbhflojcaa", sum := "2e765967039e3b7da6f258924492e431014773c8fa3287f82a95efe24bd6e171", func := "posthouse/posthouselaw27.ReplayNil", spec := "replayNil", apart := false, narrowed := true }
def ReplayNilUptoSaid : Prop := replayNilUptoRow.holds Try.pinned (OpenSpec.upto replayNilSpec)

end Rows
end Go.Proofs.Ytigdpmbhflojcaa
