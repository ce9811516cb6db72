/-
  No cell of these rows narrows 'for every input' (looked for: loops, veiled, ifaces, maps, wideKeys, modest, calm, conditions, laid).
  DERIVED. THE GIVEN ROWS OF THIS SEAT. 6 by the template 'for every input the law returns true; each argument reads behind the call as it read before'; 0 by the template 'total and deterministic' (their statements: YtpnocpfagbfboaaTotals.lean).
  GIVEN WITH THE SEED: the statements are not yours to turn. If you find one false, say at which input.
  Laid BY PROGRAM, IN A SANDBOX (cutbox-rows.mjs): the forced cells as the released guide's own fill.sh prints them over the translation 2723583aa633a1c9… (all of the seat's roots in one cut). By AI agents, Wed Nov 11 2026. No macro, syntax, notation, axiom, sorry.
-/
import Derived.Test.YtpnocpfagbfboaaChecked
import GoSem.Claim
import GoSem.ClaimJoined
import GoSem.ClaimMapViews
import Derived.JoinedTies
import Derived.KernelRfl
namespace Go.Proofs.Ytpnocpfagbfboaa
/- THE CELL 'sum', in the pinned program and in every row, IS THE sha256 OF THE DUMP (.gsa) THAT YtpnocpfagbfboaaProg.lean LOADS. Nothing in Lean hashes anything: it is a label: what it is worth is what the hold of that sum in a sandbox is worth. -/
noncomputable def Try.pinned : Pinned := { name := "ytpnocpfagbfboaa", sum := "2723583aa633a1c9ffc89062bdb115013dcd8ece7825f4ea2b9956f4a94bbfd2", checked := Try.checked }
namespace Rows
def none {H : Type} : Left H := { results := [], args := [] }

/-- 'rejoinderlaw02.CubeReads': WHATEVER THE INPUT: true; the input reads as it did. -/
def cubeReadsSpec : ChangeSpec := { name := "cubeReads", fn := fun _ => fun
  | [d1, d2] => { results := [.lit (.bool true)], args := [d1, d2] }
  | _ => none }
def cubeReadsRow : OpenClaim := { program := "ytpnocpfagbfboaa", sum := "2723583aa633a1c9ffc89062bdb115013dcd8ece7825f4ea2b9956f4a94bbfd2", func := "rejoinder/rejoinderlaw02.CubeReads", spec := "cubeReads", apart := false }
def CubeReadsSaid : Prop := cubeReadsRow.holds Try.pinned (OpenSpec.ofChange cubeReadsSpec)

/-- ITS FALSE NEIGHBOUR: 'it returns false'. Refute it at one input. -/
def cubeReadsWrong : ChangeSpec := { name := "cubeReads", fn := fun _ => fun
  | [d1, d2] => { results := [.lit (.bool false)], args := [d1, d2] }
  | _ => none }
def CubeReadsWrongFalsely : Prop := cubeReadsRow.holds Try.pinned (OpenSpec.ofChange cubeReadsWrong)

/-- 'rejoinderlaw02.CubeSets': WHATEVER THE INPUT: true; the input reads as it did. -/
def cubeSetsSpec : ChangeSpec := { name := "cubeSets", fn := fun _ => fun
  | [d1, d2] => { results := [.lit (.bool true)], args := [d1, d2] }
  | _ => none }
def cubeSetsRow : OpenClaim := { program := "ytpnocpfagbfboaa", sum := "2723583aa633a1c9ffc89062bdb115013dcd8ece7825f4ea2b9956f4a94bbfd2", func := "rejoinder/rejoinderlaw02.CubeSets", spec := "cubeSets", apart := false }
def CubeSetsSaid : Prop := cubeSetsRow.holds Try.pinned (OpenSpec.ofChange cubeSetsSpec)

/-- ITS FALSE NEIGHBOUR: 'it returns false'. Refute it at one input. -/
def cubeSetsWrong : ChangeSpec := { name := "cubeSets", fn := fun _ => fun
  | [d1, d2] => { results := [.lit (.bool false)], args := [d1, d2] }
  | _ => none }
def CubeSetsWrongFalsely : Prop := cubeSetsRow.holds Try.pinned (OpenSpec.ofChange cubeSetsWrong)

/-- 'rejoinderlaw02.CubeCalls': WHATEVER THE INPUT: true; the input reads as it did. -/
def cubeCallsSpec : ChangeSpec := { name := "cubeCalls", fn := fun _ => fun
  | [d1, d2, d3, d4] => { results := [.lit (.bool true)], args := [d1, d2, d3, d4] }
  | _ => none }
def cubeCallsRow : OpenClaim := { program := "ytpnocpfagbfboaa", sum := "2723583aa633a1c9ffc89062bdb115013dcd8ece7825f4ea2b9956f4a94bbfd2", func := "rejoinder/rejoinderlaw02.CubeCalls", spec := "cubeCalls", apart := false }
def CubeCallsSaid : Prop := cubeCallsRow.holds Try.pinned (OpenSpec.ofChange cubeCallsSpec)

/-- ITS FALSE NEIGHBOUR: 'it returns false'. Refute it at one input. -/
def cubeCallsWrong : ChangeSpec := { name := "cubeCalls", fn := fun _ => fun
  | [d1, d2, d3, d4] => { results := [.lit (.bool false)], args := [d1, d2, d3, d4] }
  | _ => none }
def CubeCallsWrongFalsely : Prop := cubeCallsRow.holds Try.pinned (OpenSpec.ofChange cubeCallsWrong)

/-- 'rejoinderlaw02.CubeLists': WHATEVER THE INPUT: true; the input reads as it did. -/
def cubeListsSpec : ChangeSpec := { name := "cubeLists", fn := fun _ => fun
  | [d1, d2, d3] => { results := [.lit (.bool true)], args := [d1, d2, d3] }
  | _ => none }
def cubeListsRow : OpenClaim := { program := "ytpnocpfagbfboaa", sum := "2723583aa633a1c9ffc89062bdb115013dcd8ece7825f4ea2b9956f4a94bbfd2", func := "rejoinder/rejoinderlaw02.CubeLists", spec := "cubeLists", recurses := true, apart := false }
def CubeListsSaid : Prop := cubeListsRow.holds Try.pinned (OpenSpec.ofChange cubeListsSpec)

/-- ITS FALSE NEIGHBOUR: 'it returns false'. Refute it at one input. -/
def cubeListsWrong : ChangeSpec := { name := "cubeLists", fn := fun _ => fun
  | [d1, d2, d3] => { results := [.lit (.bool false)], args := [d1, d2, d3] }
  | _ => none }
def CubeListsWrongFalsely : Prop := cubeListsRow.holds Try.pinned (OpenSpec.ofChange cubeListsWrong)

/-- 'rejoinderlaw02.CubeCover': WHATEVER THE INPUT: true; the input reads as it did. -/
def cubeCoverSpec : ChangeSpec := { name := "cubeCover", fn := fun _ => fun
  | [d1, d2, d3] => { results := [.lit (.bool true)], args := [d1, d2, d3] }
  | _ => none }
def cubeCoverRow : OpenClaim := { program := "ytpnocpfagbfboaa", sum := "2723583aa633a1c9ffc89062bdb115013dcd8ece7825f4ea2b9956f4a94bbfd2", func := "rejoinder/rejoinderlaw02.CubeCover", spec := "cubeCover", recurses := true, apart := false }
def CubeCoverSaid : Prop := cubeCoverRow.holds Try.pinned (OpenSpec.ofChange cubeCoverSpec)

/-- ITS FALSE NEIGHBOUR: 'it returns false'. Refute it at one input. -/
def cubeCoverWrong : ChangeSpec := { name := "cubeCover", fn := fun _ => fun
  | [d1, d2, d3] => { results := [.lit (.bool false)], args := [d1, d2, d3] }
  | _ => none }
def CubeCoverWrongFalsely : Prop := cubeCoverRow.holds Try.pinned (OpenSpec.ofChange cubeCoverWrong)

/-- 'rejoinderlaw02.CubeKnown': WHATEVER THE INPUT: true; the input reads as it did. -/
def cubeKnownSpec : ChangeSpec := { name := "cubeKnown", fn := fun _ => fun
  | [] => { results := [.lit (.bool true)], args := [] }
  | _ => none }
def cubeKnownRow : OpenClaim := { program := "ytpnocpfagbfboaa", sum := "2723583aa633a1c9ffc89062bdb115013dcd8ece7825f4ea2b9956f4a94bbfd2", func := "rejoinder/rejoinderlaw02.CubeKnown", spec := "cubeKnown", recurses := true, apart := false }
def CubeKnownSaid : Prop := cubeKnownRow.holds Try.pinned (OpenSpec.ofChange cubeKnownSpec)

/-- ITS FALSE NEIGHBOUR: 'it returns false'. Refute it at one input. -/
def cubeKnownWrong : ChangeSpec := { name := "cubeKnown", fn := fun _ => fun
  | [] => { results := [.lit (.bool false)], args := [] }
  | _ => none }
def CubeKnownWrongFalsely : Prop := cubeKnownRow.holds Try.pinned (OpenSpec.ofChange cubeKnownWrong)

/- THE SECOND FORM. 'bulk': how many values and letters a reading holds, each counted each time it is reached (what is shared counts as often as it is met; a slice's spare places count too). A statement '..UptoSaid' is the law's where the arguments, and the package variables that the reading takes, are together of bulk at most 1048576: NARROWER than '..Said'. Prove '..Said' where nothing that the law and all that it calls make is longer than what came in: it says more and counts as full. Else prove '..UptoSaid'. A law counts once. -/
mutual
def uptoBulk {H : Type} : DataW H → Nat
  | .lit (.string bytes) => bytes.length + 1
  | .lit _ => 1
  | .nil => 1
  | .ptr d => uptoBulk d + 1
  | .slice elems spare => uptoBulkAll elems + uptoBulkAll spare + 1
  | .agg parts => uptoBulkAll parts + 1
  | .iface _ d => uptoBulk d + 1
  | .map entries => uptoBulkEntries entries + 1
  | .held _ => 1
def uptoBulkAll {H : Type} : List (DataW H) → Nat
  | [] => 0
  | d :: r => uptoBulk d + uptoBulkAll r
def uptoBulkEntries {H : Type} : List (Lit × DataW H) → Nat
  | [] => 0
  | x :: r => uptoBulkEntry x + uptoBulkEntries r
def uptoBulkEntry {H : Type} : Lit × DataW H → Nat
  | (.string bytes, d) => bytes.length + uptoBulk d + 1
  | (_, d) => uptoBulk d + 1
 end
def uptoSmall : (H : Type) → List (DataW H) → Bool := fun _ ds => decide (uptoBulkAll ds ≤ 1048576)
def OpenSpec.upto (s : _root_.Go.ChangeSpec) : _root_.Go.OpenSpec := { _root_.Go.OpenSpec.ofChange s with cond := some uptoSmall }

/-- 'rejoinderlaw02.CubeReads', WHERE WHAT IT READS IS OF BULK AT MOST 1048576: true; the input reads as it did. -/
def cubeReadsUptoRow : OpenClaim := { program := "ytpnocpfagbfboaa", sum := "2723583aa633a1c9ffc89062bdb115013dcd8ece7825f4ea2b9956f4a94bbfd2", func := "rejoinder/rejoinderlaw02.CubeReads", spec := "cubeReads", apart := false, narrowed := true }
def CubeReadsUptoSaid : Prop := cubeReadsUptoRow.holds Try.pinned (OpenSpec.upto cubeReadsSpec)

/-- 'rejoinderlaw02.CubeSets', WHERE WHAT IT READS IS OF BULK AT MOST 1048576: true; the input reads as it did. -/
def cubeSetsUptoRow : OpenClaim := { program := "ytpnocpfagbfboaa", sum := "2723583aa633a1c9ffc89062bdb115013dcd8ece7825f4ea2b9956f4a94bbfd2", func := "rejoinder/rejoinderlaw02.CubeSets", spec := "cubeSets", apart := false, narrowed := true }
def CubeSetsUptoSaid : Prop := cubeSetsUptoRow.holds Try.pinned (OpenSpec.upto cubeSetsSpec)

/-- 'rejoinderlaw02.CubeCalls', WHERE WHAT IT READS IS OF BULK AT MOST 1048576: true; the input reads as it did. -/
def cubeCallsUptoRow : OpenClaim := { program := "ytpnocpfagbfboaa", sum := "2723583aa633a1c9ffc89062bdb115013dcd8ece7825f4ea2b9956f4a94bbfd2", func := "rejoinder/rejoinderlaw02.CubeCalls", spec := "cubeCalls", apart := false, narrowed := true }
def CubeCallsUptoSaid : Prop := cubeCallsUptoRow.holds Try.pinned (OpenSpec.upto cubeCallsSpec)

/-- 'rejoinderlaw02.CubeLists', WHERE WHAT IT READS IS OF BULK AT MOST 1048576: true; the input reads as it did. -/
def cubeListsUptoRow : OpenClaim := { program := "ytpnocpfagbfboaa", sum := "2723583aa633a1c9ffc89062bdb115013dcd8ece7825f4ea2b9956f4a94bbfd2", func := "rejoinder/rejoinderlaw02.CubeLists", spec := "cubeLists", recurses := true, apart := false, narrowed := true }
def CubeListsUptoSaid : Prop := cubeListsUptoRow.holds Try.pinned (OpenSpec.upto cubeListsSpec)

/-- 'rejoinderlaw02.CubeCover', WHERE WHAT IT READS IS OF BULK AT MOST 1048576: true; the input reads as it did. -/
def cubeCoverUptoRow : OpenClaim := { program := "ytpnocpfagbfboaa", sum := "2723583aa633a1c9ffc89062bdb115013dcd8ece7825f4ea2b9956f4a94bbfd2", func := "rejoinder/rejoinderlaw02.CubeCover", spec := "cubeCover", recurses := true, apart := false, narrowed := true }
def CubeCoverUptoSaid : Prop := cubeCoverUptoRow.holds Try.pinned (OpenSpec.upto cubeCoverSpec)

/-- 'rejoinderlaw02.CubeKnown', WHERE WHAT IT READS IS OF BULK AT MOST 1048576: true; the input reads as it did. -/
def cubeKnownUptoRow : OpenClaim := { program := "ytpnocpfagbfboaa", sum := "2723583aa633a1c9ffc89062bdb115013dcd8ece7825f4ea2b9956f4a94bbfd2", func := "rejoinder/rejoinderlaw02.CubeKnown", spec := "cubeKnown", recurses := true, apart := false, narrowed := true }
def CubeKnownUptoSaid : Prop := cubeKnownUptoRow.holds Try.pinned (OpenSpec.upto cubeKnownSpec)

end Rows
end Go.Proofs.Ytpnocpfagbfboaa
