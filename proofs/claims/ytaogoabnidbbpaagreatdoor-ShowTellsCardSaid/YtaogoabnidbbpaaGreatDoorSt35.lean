/- Texts of this work merged into one file, what the law does not need left out: TextTails. Conditions stand in each law. -/
import Derived.Test.YtaogoabnidbbpaaGreatDoorSt26
namespace Go.Proofs.YtaogoabnidbbpaaGreatDoor.PText
open Go.RowKit Go.Proofs.YtaogoabnidbbpaaGreatDoorW.PrintWords Go.Proofs.YtaogoabnidbbpaaGreatDoorW.PrintLast Go.Proofs.YtaogoabnidbbpaaGreatDoorW.PrintMore
set_option linter.unusedVariables false
set_option linter.unusedSimpArgs false
theorem check_inv {l : List Tk} {path : Bool} (h : chkT l path = 0) : l.length ≤ 512 ∧ ∃ all p, Trm.run 0 [] [] l = some (all, [p]) ∧ p.f0 = path ∧ p.f2 ≤ 64 := by
 unfold chkT at h
 split at h
 ·exact absurd h (by decide)
 ·rename_i hl
  refine ⟨by omega, ?_⟩
  unfold Trm.checkN at h
  split at h
  ·rename_i all p hr
   split at h
   ·rename_i hp
    split at h
    ·exact absurd h (by decide)
    ·rename_i hd
     exact ⟨all, p, hr, hp, by omega⟩
   ·exact absurd h (by decide)
  ·exact absurd h (by decide)
end Go.Proofs.YtaogoabnidbbpaaGreatDoor.PText
