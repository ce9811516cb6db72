/- Texts of this work merged into one file, what the law does not need left out: TextReadL; RefRead0. Conditions stand in each law. -/
import Derived.Test.YtaogoabnidbbpaaGreatDoorSt23
import Derived.Test.YtaogoabnidbbpaaGreatDoorSt24
import Derived.Test.YtaogoabnidbbpaaGreatDoorSt25
namespace Go.Proofs.YtaogoabnidbbpaaGreatDoor.PText
open Go.RowKit Go.Proofs.YtaogoabnidbbpaaGreatDoorW.PrintWords Go.Proofs.YtaogoabnidbbpaaGreatDoorW.PrintLast Go.Proofs.YtaogoabnidbbpaaGreatDoorW.PrintMore
set_option linter.unusedVariables false
set_option linter.unusedSimpArgs false
theorem Check_ev2 (l : List Tk) : Ev (fun k => term_Check.f k l) (chkT l false) := Ev.now _
theorem Path_ev2 (l : List Tk) : Ev (fun k => term_Path.f k l) (chkT l true) := Ev.now _
def ntOf (path : Bool) : Nt := if path then .plus else .iff
/-- Rounds enough for the words. -/
def roundsFor (ws : List Wd) : Nat := 8 * ws.length + 8
/-- What is told behind the words. -/
def endL (path : Bool) : Option End → List Tk × Int × Int
 | none => ([], 0, 0)
 | some (.stop e a) => ([], e, a)
 | some (.go r) => if chkT r.out path = 0 then (r.out, 0, 0) else ([], chkT r.out path, -1)
def readL (names : List ByteArray) (s : Bs) (path : Bool) : List Tk × Int × Int :=
 if chk names = 0 then
  (if (wordsL s).2.1 = 0 ∧ (wordsL s).2.2 = 0 then endL path (readW names s.length (roundsFor (wordsL s).1) (ntOf path) (wordsL s).1) else ([], (wordsL s).2.1, (wordsL s).2.2))
 else ([], chk names, -1)
def parse_read.f (names : List ByteArray) (s : ByteArray) (path : Bool) : Option (List Tk × Int × Int) := some (readL names s.data.toList path)
theorem lex_len (n : Nat) : ∀ (s : Bs) (i : Nat) (ws : List Wd), lexF n s i = .ok ws → ws.length ≤ s.length := by
 induction n with
 | zero => intro s i ws h; rw [lexF] at h; cases h; exact Nat.zero_le _
 | succ n ih =>
  intro s i ws h
  cases s with
  | nil => rw [lexF] at h; cases h; exact Nat.le_refl _
  | cons c t =>
   rw [lexF_cons] at h
   split at h
   ·have := ih t _ _ h; rw [List.length_cons]; omega
   ·split at h
    ·cases h
    ·rename_i hne
     cases h2 : lexF n ((c :: t).drop (firstL (c :: t)).length) (i + (firstL (c :: t)).length) with
     | error e => rw [h2] at h; cases h
     | ok ws2 =>
      rw [h2] at h
      cases h
      have h3 := ih _ _ _ h2
      rw [List.length_drop] at h3
      have h4 : 1 ≤ (firstL (c :: t)).length := List.length_pos_iff.2 hne
      rw [List.length_cons] at h3 ⊢
      rw [List.length_cons]
      omega
theorem words_len (s : Bs) : (wordsL s).1.length ≤ 4096 := by
 unfold wordsL
 split
 ·rename_i h
  cases h2 : lexF s.length s 0 with
  | error e => exact Nat.zero_le _
  | ok ws =>
   have := lex_len _ _ _ _ h2
   show ([] ++ ws).length ≤ _
   rw [List.nil_append]; omega
 ·exact Nat.zero_le _
theorem lex_ne (n : Nat) : ∀ (s : Bs) (i : Nat) (ws : List Wd), lexF n s i = .ok ws → ∀ w ∈ ws, w.f1.data.toList ≠ [] := by
 induction n with
 | zero => intro s i ws h; rw [lexF] at h; cases h; exact fun w hw => absurd hw List.not_mem_nil
 | succ n ih =>
  intro s i ws h
  cases s with
  | nil => rw [lexF] at h; cases h; exact fun w hw => absurd hw List.not_mem_nil
  | cons c t =>
   rw [lexF_cons] at h
   split at h
   ·exact ih _ _ _ h
   ·split at h
    ·cases h
    ·rename_i hne
     cases h2 : lexF n ((c :: t).drop (firstL (c :: t)).length) (i + (firstL (c :: t)).length) with
     | error e => rw [h2] at h; cases h
     | ok ws2 =>
      rw [h2] at h
      cases h
      intro w hw
      rcases List.mem_cons.1 hw with rfl | hw
      ·exact hne
      ·exact ih _ _ _ h2 w hw
theorem words_ne (s : Bs) : ∀ w ∈ (wordsL s).1, w.f1.data.toList ≠ [] := by
 unfold wordsL
 split
 ·cases h : lexF s.length s 0 with
  | error e => exact fun w hw => absurd hw List.not_mem_nil
  | ok ws => exact lex_ne _ _ _ _ h
 ·exact fun w hw => absurd hw List.not_mem_nil
theorem words_at (s : Bs) (h : (wordsL s).2.1 = 0) : (wordsL s).2.2 = 0 := by
 unfold wordsL at h ⊢
 split
 ·rename_i h1
  rw [if_pos h1] at h
  cases h2 : lexF s.length s 0 with
  | error e => rw [h2] at h; cases h
  | ok ws => rfl
 ·rename_i h1
  rw [if_neg h1] at h
  cases h
end Go.Proofs.YtaogoabnidbbpaaGreatDoor.PText
