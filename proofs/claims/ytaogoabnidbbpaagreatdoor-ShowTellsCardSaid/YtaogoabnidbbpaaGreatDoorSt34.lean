/- Texts of this work merged into one file, what the law does not need left out: TextParts. Conditions stand in each law. -/
import Derived.Test.YtaogoabnidbbpaaGreatDoorSt15
import Derived.Test.YtaogoabnidbbpaaGreatDoorSt33
namespace Go.Proofs.YtaogoabnidbbpaaGreatDoor.PText
open Go.RowKit Go.Proofs.YtaogoabnidbbpaaGreatDoorW.PrintWords Go.Proofs.YtaogoabnidbbpaaGreatDoorW.PrintLast Go.Proofs.YtaogoabnidbbpaaGreatDoorW.PrintMore
set_option linter.unusedVariables false
set_option linter.unusedSimpArgs false
def PartF (names : List ByteArray) (b : List Tk) (x : S61) : Prop := ∃ ws, LexR x.f0.data.toList ws ∧ GoodF names x.f1 b ws ∧ 1 ≤ x.f1
def PartP (names : List ByteArray) (b : List Tk) (x : S61) : Prop := ∃ ws, LexR x.f0.data.toList ws ∧ GoodP names x.f1 b ws ∧ 1 ≤ x.f1
section
variable {names : List ByteArray} {a b : List Tk} {x y : S61}
end
end Go.Proofs.YtaogoabnidbbpaaGreatDoor.PText
