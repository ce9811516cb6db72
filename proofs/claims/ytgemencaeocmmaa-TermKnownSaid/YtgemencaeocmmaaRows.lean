/-
  No cell of these rows narrows 'for every input' (looked for: loops, veiled, ifaces, maps, wideKeys, modest, calm, conditions, laid).
  DERIVED. THE GIVEN ROWS OF THIS SEAT. 5 by the template 'for every input the law returns true; each argument reads behind the call as it read before'; 0 by the template 'total and deterministic' (their statements: YtgemencaeocmmaaTotals.lean).
  GIVEN WITH THE SEED: the statements are not yours to turn. If you find one false, say at which input.
  Laid BY PROGRAM, IN A SANDBOX (cutbox-rows.mjs): the forced cells as the released guide's own fill.sh prints them over the translation 27c958c628d00c09… (all of the seat's roots in one cut). By AI agents, Wed Nov 11 2026. No macro, syntax, notation, axiom, sorry.
-/
import Derived.Test.YtgemencaeocmmaaChecked
import GoSem.Claim
import GoSem.ClaimJoined
import GoSem.ClaimMapViews
import Derived.JoinedTies
import Derived.KernelRfl
namespace Go.Proofs.Ytgemencaeocmmaa
/- THE CELL 'sum', in the pinned program and in every row, IS THE sha256 OF THE DUMP (.gsa) THAT YtgemencaeocmmaaProg.lean LOADS. Nothing in Lean hashes anything: it is a label: what it is worth is what the hold of that sum in a sandbox is worth. -/
noncomputable def Try.pinned : Pinned := { name := "ytgemencaeocmmaa", sum := "27c958c628d00c0974373c1f2cb0ef9db4330f8f29e679ffc44d64550ebbf7f3", checked := Try.checked }
namespace Rows
def none {H : Type} : Left H := { results := [], args := [] }

/-- 'rejoinderlaw03.TermTells': WHATEVER THE INPUT: true; the input reads as it did. -/
def termTellsSpec : ChangeSpec := { name := "termTells", fn := fun _ => fun
  | [d] => { results := [.lit (.bool true)], args := [d] }
  | _ => none }
def termTellsRow : OpenClaim := { program := "ytgemencaeocmmaa", sum := "27c958c628d00c0974373c1f2cb0ef9db4330f8f29e679ffc44d64550ebbf7f3", func := "rejoinder/rejoinderlaw03.TermTells", spec := "termTells", unfollowed := true, recurses := true, apart := false }
def TermTellsSaid : Prop := termTellsRow.holds Try.pinned (OpenSpec.ofChange termTellsSpec)

/-- ITS FALSE NEIGHBOUR: 'it returns false'. Refute it at one input. -/
def termTellsWrong : ChangeSpec := { name := "termTells", fn := fun _ => fun
  | [d] => { results := [.lit (.bool false)], args := [d] }
  | _ => none }
def TermTellsWrongFalsely : Prop := termTellsRow.holds Try.pinned (OpenSpec.ofChange termTellsWrong)

/-- 'rejoinderlaw03.TermBuilds': WHATEVER THE INPUT: true; the input reads as it did. -/
def termBuildsSpec : ChangeSpec := { name := "termBuilds", fn := fun _ => fun
  | [d1, d2, d3, d4] => { results := [.lit (.bool true)], args := [d1, d2, d3, d4] }
  | _ => none }
def termBuildsRow : OpenClaim := { program := "ytgemencaeocmmaa", sum := "27c958c628d00c0974373c1f2cb0ef9db4330f8f29e679ffc44d64550ebbf7f3", func := "rejoinder/rejoinderlaw03.TermBuilds", spec := "termBuilds", unfollowed := true, recurses := true, apart := false }
def TermBuildsSaid : Prop := termBuildsRow.holds Try.pinned (OpenSpec.ofChange termBuildsSpec)

/-- ITS FALSE NEIGHBOUR: 'it returns false'. Refute it at one input. -/
def termBuildsWrong : ChangeSpec := { name := "termBuilds", fn := fun _ => fun
  | [d1, d2, d3, d4] => { results := [.lit (.bool false)], args := [d1, d2, d3, d4] }
  | _ => none }
def TermBuildsWrongFalsely : Prop := termBuildsRow.holds Try.pinned (OpenSpec.ofChange termBuildsWrong)

/-- 'rejoinderlaw03.TermBlocks': WHATEVER THE INPUT: true; the input reads as it did. -/
def termBlocksSpec : ChangeSpec := { name := "termBlocks", fn := fun _ => fun
  | [d] => { results := [.lit (.bool true)], args := [d] }
  | _ => none }
def termBlocksRow : OpenClaim := { program := "ytgemencaeocmmaa", sum := "27c958c628d00c0974373c1f2cb0ef9db4330f8f29e679ffc44d64550ebbf7f3", func := "rejoinder/rejoinderlaw03.TermBlocks", spec := "termBlocks", unfollowed := true, recurses := true, apart := false }
def TermBlocksSaid : Prop := termBlocksRow.holds Try.pinned (OpenSpec.ofChange termBlocksSpec)

/-- ITS FALSE NEIGHBOUR: 'it returns false'. Refute it at one input. -/
def termBlocksWrong : ChangeSpec := { name := "termBlocks", fn := fun _ => fun
  | [d] => { results := [.lit (.bool false)], args := [d] }
  | _ => none }
def TermBlocksWrongFalsely : Prop := termBlocksRow.holds Try.pinned (OpenSpec.ofChange termBlocksWrong)

/-- 'rejoinderlaw03.TermUp': WHATEVER THE INPUT: true; the input reads as it did. -/
def termUpSpec : ChangeSpec := { name := "termUp", fn := fun _ => fun
  | [d] => { results := [.lit (.bool true)], args := [d] }
  | _ => none }
def termUpRow : OpenClaim := { program := "ytgemencaeocmmaa", sum := "27c958c628d00c0974373c1f2cb0ef9db4330f8f29e679ffc44d64550ebbf7f3", func := "rejoinder/rejoinderlaw03.TermUp", spec := "termUp", unfollowed := true, recurses := true, apart := false }
def TermUpSaid : Prop := termUpRow.holds Try.pinned (OpenSpec.ofChange termUpSpec)

/-- ITS FALSE NEIGHBOUR: 'it returns false'. Refute it at one input. -/
def termUpWrong : ChangeSpec := { name := "termUp", fn := fun _ => fun
  | [d] => { results := [.lit (.bool false)], args := [d] }
  | _ => none }
def TermUpWrongFalsely : Prop := termUpRow.holds Try.pinned (OpenSpec.ofChange termUpWrong)

/-- 'rejoinderlaw03.TermKnown': WHATEVER THE INPUT: true; the input reads as it did. -/
def termKnownSpec : ChangeSpec := { name := "termKnown", fn := fun _ => fun
  | [] => { results := [.lit (.bool true)], args := [] }
  | _ => none }
def termKnownRow : OpenClaim := { program := "ytgemencaeocmmaa", sum := "27c958c628d00c0974373c1f2cb0ef9db4330f8f29e679ffc44d64550ebbf7f3", func := "rejoinder/rejoinderlaw03.TermKnown", spec := "termKnown", unfollowed := true, recurses := true, apart := false }
def TermKnownSaid : Prop := termKnownRow.holds Try.pinned (OpenSpec.ofChange termKnownSpec)

/-- ITS FALSE NEIGHBOUR: 'it returns false'. Refute it at one input. -/
def termKnownWrong : ChangeSpec := { name := "termKnown", fn := fun _ => fun
  | [] => { results := [.lit (.bool false)], args := [] }
  | _ => none }
def TermKnownWrongFalsely : Prop := termKnownRow.holds Try.pinned (OpenSpec.ofChange termKnownWrong)

/- THE SECOND FORM. 'bulk': how many values and letters a reading holds, each counted each time it is reached (what is shared counts as often as it is met; a slice's spare places count too). A statement '..UptoSaid' is the law's where the arguments, and the package variables that the reading takes, are together of bulk at most 1048576: NARROWER than '..Said'. Prove '..Said' where nothing that the law and all that it calls make is longer than what came in: it says more and counts as full. Else prove '..UptoSaid'. A law counts once. -/
mutual
def uptoBulk {H : Type} : DataW H → Nat
  | .lit (.string bytes) => bytes.length + 1
  | .lit _ => 1
  | .nil => 1
  | .ptr d => uptoBulk d + 1
  | .slice elems spare => uptoBulkAll elems + uptoBulkAll spare + 1
  | .agg parts => uptoBulkAll parts + 1
  | .iface _ d => uptoBulk d + 1
  | .map entries => uptoBulkEntries entries + 1
  | .held _ => 1
def uptoBulkAll {H : Type} : List (DataW H) → Nat
  | [] => 0
  | d :: r => uptoBulk d + uptoBulkAll r
def uptoBulkEntries {H : Type} : List (Lit × DataW H) → Nat
  | [] => 0
  | x :: r => uptoBulkEntry x + uptoBulkEntries r
def uptoBulkEntry {H : Type} : Lit × DataW H → Nat
  | (.string bytes, d) => bytes.length + uptoBulk d + 1
  | (_, d) => uptoBulk d + 1
 end
def uptoSmall : (H : Type) → List (DataW H) → Bool := fun _ ds => decide (uptoBulkAll ds ≤ 1048576)
def OpenSpec.upto (s : _root_.Go.ChangeSpec) : _root_.Go.OpenSpec := { _root_.Go.OpenSpec.ofChange s with cond := some uptoSmall }

/-- 'rejoinderlaw03.TermTells', WHERE WHAT IT READS IS OF BULK AT MOST 1048576: true; the input reads as it did. -/
def termTellsUptoRow : OpenClaim := { program := "ytgemencaeocmmaa", sum := "27c958c628d00c0974373c1f2cb0ef9db4330f8f29e679ffc44d64550ebbf7f3", func := "rejoinder/rejoinderlaw03.TermTells", spec := "termTells", unfollowed := true, recurses := true, apart := false, narrowed := true }
def TermTellsUptoSaid : Prop := termTellsUptoRow.holds Try.pinned (OpenSpec.upto termTellsSpec)

/-- 'rejoinderlaw03.TermBuilds', WHERE WHAT IT READS IS OF BULK AT MOST 1048576: true; the input reads as it did. -/
def termBuildsUptoRow : OpenClaim := { program := "ytgemencaeocmmaa", sum := "27c958c628d00c0974373c1f2cb0ef9db4330f8f29e679ffc44d64550ebbf7f3", func := "rejoinder/rejoinderlaw03.TermBuilds", spec := "termBuilds", unfollowed := true, recurses := true, apart := false, narrowed := true }
def TermBuildsUptoSaid : Prop := termBuildsUptoRow.holds Try.pinned (OpenSpec.upto termBuildsSpec)

/-- 'rejoinderlaw03.TermBlocks', WHERE WHAT IT READS IS OF BULK AT MOST 1048576: true; the input reads as it did. -/
def termBlocksUptoRow : OpenClaim := { program := "ytgemencaeocmmaa", sum := "27c958c628d00c0974373c1f2cb0ef9db4330f8f29e679ffc44d64550ebbf7f3", func := "rejoinder/rejoinderlaw03.TermBlocks", spec := "termBlocks", unfollowed := true, recurses := true, apart := false, narrowed := true }
def TermBlocksUptoSaid : Prop := termBlocksUptoRow.holds Try.pinned (OpenSpec.upto termBlocksSpec)

/-- 'rejoinderlaw03.TermUp', WHERE WHAT IT READS IS OF BULK AT MOST 1048576: true; the input reads as it did. -/
def termUpUptoRow : OpenClaim := { program := "ytgemencaeocmmaa", sum := "27c958c628d00c0974373c1f2cb0ef9db4330f8f29e679ffc44d64550ebbf7f3", func := "rejoinder/rejoinderlaw03.TermUp", spec := "termUp", unfollowed := true, recurses := true, apart := false, narrowed := true }
def TermUpUptoSaid : Prop := termUpUptoRow.holds Try.pinned (OpenSpec.upto termUpSpec)

/-- 'rejoinderlaw03.TermKnown', WHERE WHAT IT READS IS OF BULK AT MOST 1048576: true; the input reads as it did. -/
def termKnownUptoRow : OpenClaim := { program := "ytgemencaeocmmaa", sum := "27c958c628d00c0974373c1f2cb0ef9db4330f8f29e679ffc44d64550ebbf7f3", func := "rejoinder/rejoinderlaw03.TermKnown", spec := "termKnown", unfollowed := true, recurses := true, apart := false, narrowed := true }
def TermKnownUptoSaid : Prop := termKnownUptoRow.holds Try.pinned (OpenSpec.upto termKnownSpec)

end Rows
end Go.Proofs.Ytgemencaeocmmaa
