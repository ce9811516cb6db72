/- Texts of this work merged into one file, what the law does not need left out: TextReadL. Conditions stand in each law. -/
import Derived.Below
import Derived.Deep.Draws
import Derived.Deep.AppendLies
import Derived.Maps.AppendAt
import Derived.OwnWalk
import Derived.Laws.BytesArg
import Derived.Laws.MakeOwn
import Derived.Laws.OwnMore
import Derived.Deep.OwnRows
import Derived.Tactics
import Derived.Lib.ConvBytes
import Derived.Laws.Slices
import Derived.WalkKit
import Derived.KernelRfl
import Derived.RowKit3
import Derived.Deep.LoopGhost
import Derived.Deep.QuietTactic
import Derived.BigQuiet
import Derived.WideLaws
import Derived.Deep.DeepCutAuto
import Derived.Deep.CutBlock
import Derived.Deep.RegionHeld3
import Derived.Laws.Rows
import Derived.Lib.AppendStr
import Derived.ArgAppend
import Derived.Laws.IdiomCopy
import Derived.RowKit
import Derived.OrdersHeld
import Derived.Laws.BitsLemmas
import Derived.Laws.StructEq
import Derived.Test.YtaogoabnidbbpaaDoorProg
import Derived.Shelf.Strings.Builder1
import Derived.Shelf.Strings.BuilderF
import Derived.Shelf.Strings.BuilderK
import Derived.Shelf.Strings.Fields
import Derived.Lib.SmallJoins
import Derived.BigCall
import Derived.WalkMore
import Derived.Lib.OthersKept
import Derived.Lib.FrozenHead
import Derived.Maps.OwnOps
import Derived.Maps.Views
import Derived.WalkSmall
import Derived.Test.YtaogoabnidbbpaaDoorSk1
import Derived.Test.YtaogoabnidbbpaaDoorSk2
import Derived.Test.YtaogoabnidbbpaaDoorSk3
import Derived.Test.YtaogoabnidbbpaaDoorSk4
import Derived.Test.YtaogoabnidbbpaaDoorSk5
import Derived.Test.YtaogoabnidbbpaaDoorSk6
import Derived.Test.YtaogoabnidbbpaaDoorSk7
import Derived.Test.YtaogoabnidbbpaaDoorSk8
import Derived.Test.YtaogoabnidbbpaaDoorSk10
import Derived.Test.YtaogoabnidbbpaaDoorSk11
import Derived.Test.YtaogoabnidbbpaaDoorSk12
import Derived.Test.YtaogoabnidbbpaaDoorSk13
import Derived.Test.YtaogoabnidbbpaaDoorSk14
import Derived.Test.YtaogoabnidbbpaaDoorSk16
import Derived.Test.YtaogoabnidbbpaaDoorSk18
import Derived.Test.YtaogoabnidbbpaaDoorSk19
import Derived.Test.YtaogoabnidbbpaaDoorSk21
import Derived.Test.YtaogoabnidbbpaaDoorSk25
import Derived.Test.YtaogoabnidbbpaaDoorSk26
/-! TextReadL -/
namespace Go.Proofs.YtaogoabnidbbpaaDoor.PText
open Go.RowKit Go.Proofs.YtaogoabnidbbpaaDoorW.PrintWords Go.Proofs.YtaogoabnidbbpaaDoorW.PrintLast Go.Proofs.YtaogoabnidbbpaaDoorW.PrintMore
set_option linter.unusedVariables false
/-- Are tokens a formula's (path: a path's)? The error's number. -/
def chkT (l : List Tk) (path : Bool) : Int := if l.length > 512 then 3 else Trm.checkN l path
theorem chkT_ev (l : List Tk) (path : Bool) : Ev (fun k => term_check.f k l path) (chkT l path) := by
  unfold chkT
  split
  · rename_i h
    exact Ev.congr (f := fun _ => some 3) (fun k => by unfold term_check.f; rw [if_pos (by omega)]) (Ev.now _)
  · rename_i h
    exact Trm.check_ev l path (by omega)
theorem Check_ev2 (l : List Tk) : Ev (fun k => term_Check.f k l) (chkT l false) := Ev.congr (fun k => by unfold term_Check.f; cases term_check.f k l false <;> rfl) (chkT_ev l false)
theorem Path_ev2 (l : List Tk) : Ev (fun k => term_Path.f k l) (chkT l true) := Ev.congr (fun k => by unfold term_Path.f; cases term_check.f k l true <;> rfl) (chkT_ev l true)
def ntOf (path : Bool) : Nt := if path then .plus else .iff
/-- Rounds enough for the words. -/
def roundsFor (ws : List Wd) : Nat := 8 * ws.length + 8
/-- What is told behind the words. -/
def endL (path : Bool) : Option End → List Tk × Int × Int
  | none => ([], 0, 0)
  | some (.stop e a) => ([], e, a)
  | some (.go r) => if chkT r.out path = 0 then (r.out, 0, 0) else ([], chkT r.out path, -1)
def readL (names : List ByteArray) (s : Bs) (path : Bool) : List Tk × Int × Int :=
  if chk names = 0 then
    (if (wordsL s).2.1 = 0 ∧ (wordsL s).2.2 = 0 then endL path (readW names s.length (roundsFor (wordsL s).1) (ntOf path) (wordsL s).1) else ([], (wordsL s).2.1, (wordsL s).2.2))
  else ([], chk names, -1)
def parse_read.f (names : List ByteArray) (s : ByteArray) (path : Bool) : Option (List Tk × Int × Int) := some (readL names s.data.toList path)
theorem lex_len (n : Nat) : ∀ (s : Bs) (i : Nat) (ws : List Wd), lexF n s i = .ok ws → ws.length ≤ s.length := by
  induction n with
  | zero => intro s i ws h; rw [lexF] at h; cases h; exact Nat.zero_le _
  | succ n ih =>
    intro s i ws h
    cases s with
    | nil => rw [lexF] at h; cases h; exact Nat.le_refl _
    | cons c t =>
      rw [lexF_cons] at h
      split at h
      · have := ih t _ _ h; rw [List.length_cons]; omega
      · split at h
        · cases h
        · rename_i hne
          cases h2 : lexF n ((c :: t).drop (firstL (c :: t)).length) (i + (firstL (c :: t)).length) with
          | error e => rw [h2] at h; cases h
          | ok ws2 =>
            rw [h2] at h
            cases h
            have h3 := ih _ _ _ h2
            rw [List.length_drop] at h3
            have h4 : 1 ≤ (firstL (c :: t)).length := List.length_pos_iff.2 hne
            rw [List.length_cons] at h3 ⊢
            rw [List.length_cons]
            omega
theorem words_len (s : Bs) : (wordsL s).1.length ≤ 4096 := by
  unfold wordsL
  split
  · rename_i h
    cases h2 : lexF s.length s 0 with
    | error e => exact Nat.zero_le _
    | ok ws =>
      have := lex_len _ _ _ _ h2
      show ([] ++ ws).length ≤ _
      rw [List.nil_append]; omega
  · exact Nat.zero_le _
end Go.Proofs.YtaogoabnidbbpaaDoor.PText
