/- Texts of this work merged into one file, what the law does not need left out: TextLexes. Conditions stand in each law. -/
import Derived.Test.YtaogoabnidbbpaaGreatDoorSt24
namespace Go.Proofs.YtaogoabnidbbpaaGreatDoor.PText
open Go.RowKit Go.Proofs.YtaogoabnidbbpaaGreatDoorW.PrintWords Go.Proofs.YtaogoabnidbbpaaGreatDoorW.PrintLast Go.Proofs.YtaogoabnidbbpaaGreatDoorW.PrintMore
set_option linter.unusedVariables false
set_option linter.unusedSimpArgs false
inductive LexR : Bs → List Sy → Prop
 | nil : LexR [] []
 | blank {t : Bs} {ws : List Sy} : LexR t ws → LexR (32 :: t) ws
 | word {c : UInt8} {t : Bs} {ws : List Sy} : c ≠ 32 → firstL (c :: t) ≠ [] → LexR ((c :: t).drop (firstL (c :: t)).length) ws → LexR (c :: t) (((sortL (firstL (c :: t))).1, firstL (c :: t)) :: ws)
end Go.Proofs.YtaogoabnidbbpaaGreatDoor.PText
