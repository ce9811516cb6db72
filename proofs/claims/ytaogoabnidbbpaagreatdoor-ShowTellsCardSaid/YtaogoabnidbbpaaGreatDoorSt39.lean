/- Texts of this work merged into one file, what the law does not need left out: TellsPure. Conditions stand in each law. -/
import Derived.Test.YtaogoabnidbbpaaGreatDoorSt18
import Derived.Test.YtaogoabnidbbpaaGreatDoorSt37
import Derived.Test.YtaogoabnidbbpaaGreatDoorSt38
namespace Go.Proofs.YtaogoabnidbbpaaGreatDoor.PText
open Go.RowKit Go.Proofs.YtaogoabnidbbpaaGreatDoorW.PrintWords Go.Proofs.YtaogoabnidbbpaaGreatDoorW.PrintLast Go.Proofs.YtaogoabnidbbpaaGreatDoorW.PrintMore
set_option linter.unusedVariables false
set_option linter.unusedSimpArgs false
def showF (names : List ByteArray) (l : List Tk) (path : Bool) : ByteArray × Int :=
 if chk names = 0 then (if chkT l path = 0 then (show_text.f names l).getD (⟨#[]⟩, 0) else (⟨#[]⟩, chkT l path)) else (⟨#[]⟩, chk names)
def tidyF (names : List ByteArray) (s : Bs) : ByteArray × Int × Int :=
 if (readL names s false).2.1 = 0 then (if (showF names (readL names s false).1 false).2 = 0 then ((showF names (readL names s false).1 false).1, 0, 0) else (⟨#[]⟩, (showF names (readL names s false).1 false).2, -1))
 else (⟨#[]⟩, (readL names s false).2.1, (readL names s false).2.2)
theorem formulaS_ev (names : List ByteArray) (l : List Tk) (hok : ∀ t ∈ l, okT t = true) : Ev (fun k => show_Formula.f k names l) (showF names l false) := by
 unfold showF
 simp only [show_Formula.f, letter_Check.f, Option.bind_some]
 by_cases h0 : chk names = 0
 ·simp only [if_pos h0]
  refine Ev.bind (Check_ev2 l) ?_
  by_cases h1 : chkT l false = 0
  ·obtain ⟨s, e, hs⟩ := show_some names h1 hok
   simp only [if_pos h1, hs, Option.bind_some, Option.getD_some]
   exact Ev.now _
  ·simp only [if_neg h1]
   exact Ev.now _
 ·simp only [if_neg h0]
  exact Ev.now _
theorem pathS_ev (names : List ByteArray) (l : List Tk) (hok : ∀ t ∈ l, okT t = true) : Ev (fun k => show_Path.f k names l) (showF names l true) := by
 unfold showF
 simp only [show_Path.f, letter_Check.f, Option.bind_some]
 by_cases h0 : chk names = 0
 ·simp only [if_pos h0]
  refine Ev.bind (Path_ev2 l) ?_
  by_cases h1 : chkT l true = 0
  ·obtain ⟨s, e, hs⟩ := show_some names h1 hok
   simp only [if_pos h1, hs, Option.bind_some, Option.getD_some]
   exact Ev.now _
  ·simp only [if_neg h1]
   exact Ev.now _
 ·simp only [if_neg h0]
  exact Ev.now _
theorem names_small {names : List ByteArray} (h : chk names = 0) : ∀ x ∈ names, x.size ≤ 20 := by
 intro x hx
 obtain ⟨i, hi, rfl⟩ := List.getElem_of_mem hx
 have hn := (chk_name h i hi).1
 unfold nameL at hn
 simp only [Bool.and_eq_true, decide_eq_true_eq] at hn
 have e := size_eq names[i]
 omega
theorem told_now {names : List ByteArray} {l : List Tk} {path : Bool} (h0 : chk names = 0) (hk : chkT l path = 0) (hok : ∀ t ∈ l, okT t = true) : ∃ s e, show_text.f names l = some (s, e) ∧ rejoinderref06_told.f names l = some (s, e) := by
 obtain ⟨s, e, h1, h2⟩ := told_same (names := names) hk hok
 refine ⟨s, e, h1, ?_⟩
 unfold rejoinderref06_told.f
 rw [if_pos ⟨(check_inv hk).1, List.all_eq_true.2 hok, List.all_eq_true.2 fun x hx => decide_eq_true (names_small h0 x hx)⟩]
 exact h2
theorem formulaR_now (names : List ByteArray) (l : List Tk) (hok : ∀ t ∈ l, okT t = true) : rejoinderref06_Formula.f names l = some (showF names l false) := by
 unfold showF rejoinderref06_Formula.f rejoinderref01_Check.f
 rw [Option.bind_some, (chk3 hok).1]
 by_cases h0 : chk names = 0
 ·rw [if_pos h0, if_pos h0, Option.bind_some]
  by_cases h1 : chkT l false = 0
  ·obtain ⟨s, e, hs, ht⟩ := told_now h0 h1 hok
   rw [if_pos h1, if_pos h1, hs, ht]
   rfl
  ·rw [if_neg h1, if_neg h1]
 ·rw [if_neg h0, if_neg h0]
theorem pathR_now (names : List ByteArray) (l : List Tk) (hok : ∀ t ∈ l, okT t = true) : rejoinderref06_Path.f names l = some (showF names l true) := by
 unfold showF rejoinderref06_Path.f rejoinderref01_Check.f
 rw [Option.bind_some, (chk3 hok).2]
 by_cases h0 : chk names = 0
 ·rw [if_pos h0, if_pos h0, Option.bind_some]
  by_cases h1 : chkT l true = 0
  ·obtain ⟨s, e, hs, ht⟩ := told_now h0 h1 hok
   rw [if_pos h1, if_pos h1, hs, ht]
   rfl
  ·rw [if_neg h1, if_neg h1]
 ·rw [if_neg h0, if_neg h0]
theorem tidyR_now (names : List ByteArray) (s : ByteArray) (hn : names.length ≤ 200) : rejoinderref06_Tidy.f names s = some (tidyF names s.data.toList) := by
 unfold tidyF rejoinderref06_Tidy.f rejoinderref05_Formula.f rejoinderref05_read.f
 simp only [Option.bind_some]
 by_cases h0 : (readL names s.data.toList false).2.1 = 0
 ·rw [if_pos h0, if_pos h0, formulaR_now names _ (readL_okT names s.data.toList false hn), Option.bind_some]
  split <;> rfl
 ·rw [if_neg h0, if_neg h0]
theorem texts_same (l : List ByteArray) (hl : l.length ≤ 1000) : ∀ (n i : Nat), i + n = l.length → Ev (fun k => rejoinderkit_SameTexts.l0 k l l i) true := by
 intro n
 induction n with
 | zero => intro i hi; exact Ev.step (f := fun _ => some true) (fun k => by rw [rejoinderkit_SameTexts.l0, if_neg (by omega)]) (Ev.now _)
 | succ n ih =>
  intro i hi
  have e1 : wrap64 ((i : Int) + 1) = ((i + 1 : Nat) : Int) := by unfold wrap64; omega
  exact Ev.step (f := fun k => rejoinderkit_SameTexts.l0 k l l ((i + 1 : Nat) : Int)) (fun k => by rw [rejoinderkit_SameTexts.l0, if_pos (by omega), if_pos (by omega), if_pos (by omega), if_pos rfl, e1]) (ih (i + 1) (by omega))
theorem texts_ev (l : List ByteArray) (hl : l.length ≤ 1000) : Ev (fun k => rejoinderkit_SameTexts.f k l l) true :=
 Ev.congr (f := fun k => rejoinderkit_SameTexts.l0 k l l 0) (fun k => by unfold rejoinderkit_SameTexts.f; rw [if_pos rfl]) (texts_same l hl l.length 0 (by omega))
end Go.Proofs.YtaogoabnidbbpaaGreatDoor.PText
