/- Texts of this work merged into one file, what the law does not need left out: TextReadL; TextLaws; TextTails; TextJoinsLaw. Conditions stand in each law. -/
import Derived.Below
import Derived.Deep.Draws
import Derived.Deep.AppendLies
import Derived.Maps.AppendAt
import Derived.OwnWalk
import Derived.Laws.BytesArg
import Derived.Laws.MakeOwn
import Derived.Laws.OwnMore
import Derived.Deep.OwnRows
import Derived.Tactics
import Derived.Lib.ConvBytes
import Derived.Laws.Slices
import Derived.WalkKit
import Derived.KernelRfl
import Derived.RowKit3
import Derived.Deep.LoopGhost
import Derived.Deep.QuietTactic
import Derived.BigQuiet
import Derived.WideLaws
import Derived.Deep.DeepCutAuto
import Derived.Deep.CutBlock
import Derived.Deep.RegionHeld3
import Derived.Laws.Rows
import Derived.Lib.AppendStr
import Derived.ArgAppend
import Derived.Laws.IdiomCopy
import Derived.RowKit
import Derived.OrdersHeld
import Derived.Laws.BitsLemmas
import Derived.Laws.StructEq
import Derived.Test.YtaogoabnidbbpaaDoorProg
import Derived.Shelf.Strings.Builder1
import Derived.Shelf.Strings.BuilderF
import Derived.Shelf.Strings.BuilderK
import Derived.Shelf.Strings.Fields
import Derived.Lib.SmallJoins
import Derived.BigCall
import Derived.WalkMore
import Derived.Lib.OthersKept
import Derived.Lib.FrozenHead
import Derived.WalkSmall
import Derived.Maps.OwnOps
import Derived.Maps.Views
import Derived.Test.YtaogoabnidbbpaaDoorPj1
import Derived.Test.YtaogoabnidbbpaaDoorPj2
import Derived.Test.YtaogoabnidbbpaaDoorPj3
import Derived.Test.YtaogoabnidbbpaaDoorPj4
import Derived.Test.YtaogoabnidbbpaaDoorPj5
import Derived.Test.YtaogoabnidbbpaaDoorPj6
import Derived.Test.YtaogoabnidbbpaaDoorPj7
import Derived.Test.YtaogoabnidbbpaaDoorPj8
import Derived.Test.YtaogoabnidbbpaaDoorPj9
import Derived.Test.YtaogoabnidbbpaaDoorPj10
import Derived.Test.YtaogoabnidbbpaaDoorPj11
import Derived.Test.YtaogoabnidbbpaaDoorPj12
import Derived.Test.YtaogoabnidbbpaaDoorPj13
import Derived.Test.YtaogoabnidbbpaaDoorPj14
import Derived.Test.YtaogoabnidbbpaaDoorPj15
import Derived.Test.YtaogoabnidbbpaaDoorPj16
/-! TextReadL -/
namespace Go.Proofs.YtaogoabnidbbpaaDoor.PText
open Go.RowKit Go.Proofs.YtaogoabnidbbpaaDoorW.PrintWords Go.Proofs.YtaogoabnidbbpaaDoorW.PrintLast Go.Proofs.YtaogoabnidbbpaaDoorW.PrintMore
set_option linter.unusedVariables false
/-- Are tokens a formula's (path: a path's)? The error's number. -/
def chkT (l : List Tk) (path : Bool) : Int := if l.length > 512 then 3 else Trm.checkN l path
theorem chkT_ev (l : List Tk) (path : Bool) : Ev (fun k => term_check.f k l path) (chkT l path) := by
  unfold chkT
  split
  · rename_i h
    exact Ev.congr (f := fun _ => some 3) (fun k => by unfold term_check.f; rw [if_pos (by omega)]) (Ev.now _)
  · rename_i h
    exact Trm.check_ev l path (by omega)
theorem Check_ev2 (l : List Tk) : Ev (fun k => term_Check.f k l) (chkT l false) := Ev.congr (fun k => by unfold term_Check.f; cases term_check.f k l false <;> rfl) (chkT_ev l false)
theorem Path_ev2 (l : List Tk) : Ev (fun k => term_Path.f k l) (chkT l true) := Ev.congr (fun k => by unfold term_Path.f; cases term_check.f k l true <;> rfl) (chkT_ev l true)
def ntOf (path : Bool) : Nt := if path then .plus else .iff
/-- Rounds enough for the words. -/
def roundsFor (ws : List Wd) : Nat := 8 * ws.length + 8
/-- What is told behind the words. -/
def endL (path : Bool) : Option End → List Tk × Int × Int
  | none => ([], 0, 0)
  | some (.stop e a) => ([], e, a)
  | some (.go r) => if chkT r.out path = 0 then (r.out, 0, 0) else ([], chkT r.out path, -1)
def readL (names : List ByteArray) (s : Bs) (path : Bool) : List Tk × Int × Int :=
  if chk names = 0 then
    (if (wordsL s).2.1 = 0 ∧ (wordsL s).2.2 = 0 then endL path (readW names s.length (roundsFor (wordsL s).1) (ntOf path) (wordsL s).1) else ([], (wordsL s).2.1, (wordsL s).2.2))
  else ([], chk names, -1)
def parse_read.f (names : List ByteArray) (s : ByteArray) (path : Bool) : Option (List Tk × Int × Int) := some (readL names s.data.toList path)
theorem lex_len (n : Nat) : ∀ (s : Bs) (i : Nat) (ws : List Wd), lexF n s i = .ok ws → ws.length ≤ s.length := by
  induction n with
  | zero => intro s i ws h; rw [lexF] at h; cases h; exact Nat.zero_le _
  | succ n ih =>
    intro s i ws h
    cases s with
    | nil => rw [lexF] at h; cases h; exact Nat.le_refl _
    | cons c t =>
      rw [lexF_cons] at h
      split at h
      · have := ih t _ _ h; rw [List.length_cons]; omega
      · split at h
        · cases h
        · rename_i hne
          cases h2 : lexF n ((c :: t).drop (firstL (c :: t)).length) (i + (firstL (c :: t)).length) with
          | error e => rw [h2] at h; cases h
          | ok ws2 =>
            rw [h2] at h
            cases h
            have h3 := ih _ _ _ h2
            rw [List.length_drop] at h3
            have h4 : 1 ≤ (firstL (c :: t)).length := List.length_pos_iff.2 hne
            rw [List.length_cons] at h3 ⊢
            rw [List.length_cons]
            omega
theorem words_len (s : Bs) : (wordsL s).1.length ≤ 4096 := by
  unfold wordsL
  split
  · rename_i h
    cases h2 : lexF s.length s 0 with
    | error e => exact Nat.zero_le _
    | ok ws =>
      have := lex_len _ _ _ _ h2
      show ([] ++ ws).length ≤ _
      rw [List.nil_append]; omega
  · exact Nat.zero_le _
end Go.Proofs.YtaogoabnidbbpaaDoor.PText
/-! TextLaws -/
namespace Go.Proofs.YtaogoabnidbbpaaDoor.PText
open Go.RowKit Go.Proofs.YtaogoabnidbbpaaDoorW.PrintWords Go.Proofs.YtaogoabnidbbpaaDoorW.PrintLast Go.Proofs.YtaogoabnidbbpaaDoorW.PrintMore
set_option linter.unusedVariables false
/-- The operators behind an operand. -/
def opSigns : List Bs := [[60, 45, 62], [45, 62], [124], [38], [85], [82], [43], [59], [42]]
/-- No operator stands next. -/
def Shut (r : List Sy) : Prop := nextS r ∉ opSigns
theorem shut_ne {r : List Sy} (h : Shut r) {s : Bs} (hs : s ∈ opSigns) : nextS r ≠ s := fun e => h (e ▸ hs)
theorem more_op {nt b : Nt} {s : Bs} {op : Int} (h : morely nt = some (s, op, b)) : s ∈ opSigns := by
  cases nt <;> cases h <;> decide
theorem righty_shut {r : List Sy} (h : Shut r) (nt : Nt) : righty nt (nextS r) = none := by
  cases nt with
  | imp => rw [righty_imp, if_neg (shut_ne h (by decide))]
  | til => rw [righty_til, if_neg (shut_ne h (by decide)), if_neg (shut_ne h (by decide))]
  | _ => rfl
theorem next_app (ws r : List Sy) : nextS (ws ++ r) = if ws = [] then nextS r else nextS ws := by
  cases ws with
  | nil => rfl
  | cons a t => rfl
theorem atom_some {names : List ByteArray} {ws ws1 : List Sy} {l : List Tk} (h : Reads names .atom ws l ws1) : ws ≠ [] := by
  intro e
  subst e
  cases h with
  | left h _ _ => cases h
  | rest h _ => cases h
  | one h _ _ => cases h
  | right h _ _ _ => cases h
theorem reads_ext {names : List ByteArray} {nt : Nt} {ws ws1 : List Sy} {l : List Tk} (h : Reads names nt ws l ws1) (r : List Sy) (hr : Shut r) : Reads names nt (ws ++ r) l (ws1 ++ r) := by
  induction h with
  | left hl _ _ i1 i2 => exact .left hl i1 i2
  | more hm _ _ i1 i2 => exact .more hm i1 i2
  | @rest nt b s op ws hm hne =>
    refine .rest hm ?_
    rw [next_app]
    split
    · exact shut_ne hr (more_op hm)
    · exact hne
  | star _ i => exact .star i
  | @unstar ws hne =>
    refine .unstar ?_
    rw [next_app]
    split
    · exact shut_ne hr (by decide)
    · exact hne
  | @one nt b ws ws1 l hb _ hn i =>
    refine .one hb i ?_
    rw [next_app]
    split
    · exact righty_shut hr _
    · exact hn
  | right hb hs _ _ i1 i2 => exact .right hb hs i1 i2
  | pre hm _ i => exact .pre hm i
  | modal hm _ _ i1 i2 => exact .modal hm i1 i2
  | atom h1 h2 d i =>
    have hne := atom_some d
    refine .atom ?_ ?_ i
    · rw [next_app, if_neg hne]; exact h1
    · rw [next_app, if_neg hne]; exact h2
  | word hm => exact .word hm
  | paren _ i => exact .paren i
  | name h1 h2 h3 h4 => exact .name h1 h2 h3 h4
  | step _ i => exact .step i
  | test _ i => exact .test i
  | group _ i => exact .group i
section
variable {names : List ByteArray} {ws r : List Sy} {l : List Tk}
theorem til_of (h : Reads names .unary ws l r) (hn : righty .til (nextS r) = none) : Reads names .til ws l r := .one rfl h hn
theorem and_of (h : Reads names .til ws l r) (hn : nextS r ≠ [38]) : Reads names .and ws l r := by
  have := Reads.left (nt := .and) rfl h (.rest rfl hn)
  rwa [List.append_nil] at this
theorem or_of (h : Reads names .and ws l r) (hn : nextS r ≠ [124]) : Reads names .or ws l r := by
  have := Reads.left (nt := .or) rfl h (.rest rfl hn)
  rwa [List.append_nil] at this
theorem imp_of (h : Reads names .or ws l r) (hn : righty .imp (nextS r) = none) : Reads names .imp ws l r := .one rfl h hn
theorem iff_of (h : Reads names .imp ws l r) (hn : nextS r ≠ [60, 45, 62]) : Reads names .iff ws l r := by
  have := Reads.left (nt := .iff) rfl h (.rest rfl hn)
  rwa [List.append_nil] at this
theorem iff_of_unary (h : Reads names .unary ws l r) (hr : Shut r) : Reads names .iff ws l r :=
  iff_of (imp_of (or_of (and_of (til_of h (righty_shut hr _)) (shut_ne hr (by decide))) (shut_ne hr (by decide))) (righty_shut hr _)) (shut_ne hr (by decide))
end
def LeE (a b : Option End) : Prop := ∀ e, a = some e → b = some e
theorem LeE.refl (a : Option End) : LeE a a := fun _ h => h
theorem LeE.none (a : Option End) : LeE .none a := fun _ h => by cases h
theorem LeE.then {x x' : Option End} {f f' : Rd → Option End} (h : LeE x x') (k : ∀ r, LeE (f r) (f' r)) : LeE (thenDo x f) (thenDo x' f') := by
  intro e he
  cases hx : x with
  | none => rw [hx] at he; cases he
  | some y =>
    rw [hx] at he
    rw [h y hx]
    cases y with
    | stop a b => exact he
    | go r => exact k r e he
theorem LeE.ite {c : Prop} [Decidable c] {a a' b b' : Option End} (h : LeE a a') (k : LeE b b') : LeE (if c then a else b) (if c then a' else b') := by
  split
  · exact h
  · exact k
theorem LeE.want {r : Rd} {last : Int} {s : Bs} {f f' : Rd → Option End} (h : ∀ r, LeE (f r) (f' r)) : LeE (r.want last s f) (r.want last s f') := by
  unfold Rd.want
  exact LeE.ite (h _) (LeE.refl _)
theorem run_mono1 (names : List ByteArray) (last : Int) (n : Nat) : ∀ (nt : Nt) (r : Rd), LeE (run names last n nt r) (run names last (n + 1) nt r) := by
  induction n with
  | zero => intro nt r e h; rw [run] at h; cases h
  | succ n ih =>
    intro nt r
    cases nt <;> rw [run, run]
    all_goals repeat' first
      | exact ih _ _
      | exact LeE.refl _
      | refine LeE.ite ?_ ?_
      | refine LeE.then ?_ (fun r => ?_)
      | refine LeE.want (fun r => ?_)
theorem run_mono {names : List ByteArray} {last : Int} {n m : Nat} (h : n ≤ m) {nt : Nt} {r : Rd} {e : End} (he : run names last n nt r = some e) : run names last m nt r = some e := by
  obtain ⟨d, rfl⟩ := Nat.exists_eq_add_of_le h
  induction d with
  | zero => exact he
  | succ d ih => exact run_mono1 names last (n + d) nt r e (ih (by omega))
theorem stop_err (names : List ByteArray) (last : Int) (n : Nat) : ∀ (nt : Nt) (r : Rd) (e a : Int), run names last n nt r = some (.stop e a) → e ≠ 0 := by
  induction n with
  | zero => intro nt r e a h; rw [run] at h; cases h
  | succ n ih =>
    have t1 : ∀ (x : Nt) (q : Rd) (f : Rd → Option End) (e a : Int), (∀ q e a, f q = some (.stop e a) → e ≠ 0) → thenDo (run names last n x q) f = some (.stop e a) → e ≠ 0 := by
      intro x q f e a hf h
      cases hx : run names last n x q with
      | none => rw [hx] at h; cases h
      | some y =>
        rw [hx] at h
        cases y with
        | stop e' a' => cases h; exact ih x q _ _ hx
        | go q' => exact hf q' e a h
    have t2 : ∀ (q : Rd) (s : Bs) (f : Rd → Option End) (e a : Int), (∀ q e a, f q = some (.stop e a) → e ≠ 0) → q.want last s f = some (.stop e a) → e ≠ 0 := by
      intro q s f e a hf h
      unfold Rd.want at h
      split at h
      · exact hf _ _ _ h
      · cases h; decide
    have g1 : ∀ (q : Rd) (e a : Int), (some (End.go q) : Option End) = some (.stop e a) → e ≠ 0 := by intro q e a h; cases h
    intro nt r e a h
    cases nt with
    | iff => rw [run] at h; exact t1 _ _ _ _ _ (fun q e a => ih _ q e a) h
    | or => rw [run] at h; exact t1 _ _ _ _ _ (fun q e a => ih _ q e a) h
    | and => rw [run] at h; exact t1 _ _ _ _ _ (fun q e a => ih _ q e a) h
    | plus => rw [run] at h; exact t1 _ _ _ _ _ (fun q e a => ih _ q e a) h
    | seq => rw [run] at h; exact t1 _ _ _ _ _ (fun q e a => ih _ q e a) h
    | star => rw [run] at h; exact t1 _ _ _ _ _ (fun q e a => ih _ q e a) h
    | moreIff => rw [run] at h; split at h; exact t1 _ _ _ _ _ (fun q e a => ih _ _ e a) h; exact g1 _ _ _ h
    | moreOr => rw [run] at h; split at h; exact t1 _ _ _ _ _ (fun q e a => ih _ _ e a) h; exact g1 _ _ _ h
    | moreAnd => rw [run] at h; split at h; exact t1 _ _ _ _ _ (fun q e a => ih _ _ e a) h; exact g1 _ _ _ h
    | morePlus => rw [run] at h; split at h; exact t1 _ _ _ _ _ (fun q e a => ih _ _ e a) h; exact g1 _ _ _ h
    | moreSeq => rw [run] at h; split at h; exact t1 _ _ _ _ _ (fun q e a => ih _ _ e a) h; exact g1 _ _ _ h
    | stars => rw [run] at h; split at h; exact ih _ _ _ _ h; exact g1 _ _ _ h
    | imp =>
      rw [run] at h
      refine t1 _ _ _ _ _ (fun q e a h => ?_) h
      split at h
      · exact t1 _ _ _ _ _ (fun q e a => g1 _ e a) h
      · exact g1 _ _ _ h
    | til =>
      rw [run] at h
      refine t1 _ _ _ _ _ (fun q e a h => ?_) h
      split at h
      · exact t1 _ _ _ _ _ (fun q e a => g1 _ e a) h
      · split at h
        · exact t1 _ _ _ _ _ (fun q e a => g1 _ e a) h
        · exact g1 _ _ _ h
    | unary =>
      rw [run] at h
      split at h
      · exact t1 _ _ _ _ _ (fun q e a => g1 _ e a) h
      split at h
      · exact t1 _ _ _ _ _ (fun q e a => g1 _ e a) h
      split at h
      · exact t1 _ _ _ _ _ (fun q e a => g1 _ e a) h
      split at h
      · exact t1 _ _ _ _ _ (fun q e a => g1 _ e a) h
      split at h
      · exact t1 _ _ _ _ _ (fun q e a => g1 _ e a) h
      split at h
      · exact t1 _ _ _ _ _ (fun q e a h => t2 _ _ _ _ _ (fun q e a h => t1 _ _ _ _ _ (fun q e a => g1 _ e a) h) h) h
      split at h
      · exact t1 _ _ _ _ _ (fun q e a h => t2 _ _ _ _ _ (fun q e a h => t1 _ _ _ _ _ (fun q e a => g1 _ e a) h) h) h
      exact ih _ _ _ _ h
    | atom =>
      rw [run] at h
      split at h
      · exact g1 _ _ _ h
      split at h
      · exact g1 _ _ _ h
      split at h
      · exact g1 _ _ _ h
      split at h
      · exact t1 _ _ _ _ _ (fun q e a h => t2 _ _ _ _ _ (fun q e a => g1 _ e a) h) h
      unfold Rd.name at h
      split at h
      · cases h; decide
      · split at h
        · cases h; decide
        · split at h
          · cases h; decide
          · exact g1 _ _ _ h
    | bare =>
      rw [run] at h
      split at h
      · exact t1 _ _ _ _ _ (fun q e a h => t2 _ _ _ _ _ (fun q e a => g1 _ e a) h) h
      split at h
      · exact t1 _ _ _ _ _ (fun q e a => g1 _ e a) h
      split at h
      · exact t1 _ _ _ _ _ (fun q e a h => t2 _ _ _ _ _ (fun q e a => g1 _ e a) h) h
      cases h; decide
theorem words_of {s : Bs} {l : List Sy} (hl : s.length ≤ 4096) (h : LexR s l) : ∃ ws, wordsL s = (ws, 0, 0) ∧ ws.map sy = l := by
  obtain ⟨ws, h1, h2⟩ := lex_from h s.length 0 (Nat.le_refl _)
  refine ⟨ws, ?_, h2⟩
  unfold wordsL
  rw [if_pos hl, h1]
  rfl
theorem readW_of {names : List ByteArray} {last : Int} {path : Bool} {ws : List Wd} {l : List Tk} (h : Reads names (ntOf path) (ws.map sy) l []) : ∃ q : Rd, readW names last (roundsFor ws) (ntOf path) ws = some (.go q) ∧ q.out = l := by
  obtain ⟨e, he⟩ := run_total names last (roundsFor ws) (ntOf path) ⟨ws, []⟩ (by unfold roundsFor ntOf; cases path <;> simp [rank])
  obtain ⟨n0, hn0⟩ := reads_run h
  obtain ⟨q, h1, h2, h3⟩ := hn0 (n0 + roundsFor ws) (Nat.le_add_right _ _) last ⟨ws, []⟩ rfl
  have h4 := run_mono (Nat.le_add_left (roundsFor ws) n0) he
  rw [h4] at h1
  obtain rfl := Option.some.inj h1
  have hq : q.ws = [] := List.map_eq_nil_iff.1 h2
  refine ⟨q, ?_, by rw [h3]; rfl⟩
  unfold readW
  rw [he]
  show (match q.ws with | [] => some (End.go q) | _ :: _ => some (q.fail last 150)) = _
  rw [hq]
/-- What is told of a text whose words, and whose reading, are known. -/
theorem readL_of {names : List ByteArray} {s : Bs} {sl : List Sy} {l : List Tk} {path : Bool} (h0 : chk names = 0) (hl : s.length ≤ 4096) (hx : LexR s sl) (hr : Reads names (ntOf path) sl l []) :
    readL names s path = if chkT l path = 0 then (l, 0, 0) else ([], chkT l path, -1) := by
  obtain ⟨ws, h1, rfl⟩ := words_of hl hx
  obtain ⟨q, h2, h3⟩ := readW_of (last := s.length) hr
  unfold readL
  rw [if_pos h0, h1, if_pos ⟨rfl, rfl⟩]
  simp only
  rw [h2]
  show (if chkT q.out path = 0 then (q.out, (0 : Int), (0 : Int)) else ([], chkT q.out path, -1)) = _
  rw [h3]
/-- What a text is that was read. -/
theorem readL_ok {names : List ByteArray} {s : Bs} {l : List Tk} {path : Bool} (h : readL names s path = (l, 0, 0)) : chk names = 0 ∧ s.length ≤ 4096 ∧ ∃ sl, LexR s sl ∧ Reads names (ntOf path) sl l [] ∧ chkT l path = 0 := by
  unfold readL at h
  by_cases h0 : chk names = 0
  · rw [if_pos h0] at h
    refine ⟨h0, ?_⟩
    by_cases hl : s.length ≤ 4096
    · refine ⟨hl, ?_⟩
      cases hx : lexF s.length s 0 with
      | error e =>
        have hw : wordsL s = ([], 140, (e : Int)) := by unfold wordsL; rw [if_pos hl, hx]; rfl
        rw [hw, if_neg (fun hh => by have h5 : (140 : Int) = 0 := hh.1; exact absurd h5 (by decide))] at h
        injection h with _ h; injection h with h _; have h5 : (140 : Int) = 0 := h; exact absurd h5 (by decide)
      | ok ws =>
        have hw : wordsL s = (ws, 0, 0) := by unfold wordsL; rw [if_pos hl, hx]; rfl
        rw [hw, if_pos ⟨rfl, rfl⟩] at h
        simp only at h
        refine ⟨ws.map sy, lex_to _ _ _ _ (Nat.le_refl _) hx, ?_⟩
        obtain ⟨e, he⟩ := run_total names s.length (roundsFor ws) (ntOf path) ⟨ws, []⟩ (by unfold roundsFor ntOf; cases path <;> simp [rank])
        unfold readW at h
        rw [he] at h
        cases e with
        | stop er a =>
          have h2 : ([], er, a) = (l, (0 : Int), (0 : Int)) := h
          injection h2 with _ h2; injection h2 with h2 _
          exact absurd h2 (stop_err _ _ _ _ _ _ _ he)
        | go q =>
          have h2 : endL path (match q.ws with | [] => some (End.go q) | _ :: _ => some (q.fail s.length 150)) = (l, 0, 0) := h
          cases hq : q.ws with
          | cons a b =>
            rw [hq] at h2
            have h3 : ([], (150 : Int), q.place s.length) = (l, (0 : Int), (0 : Int)) := h2
            injection h3 with _ h3; injection h3 with h3 _
            exact absurd h3 (by decide)
          | nil =>
            rw [hq] at h2
            have h3 : (if chkT q.out path = 0 then (q.out, (0 : Int), (0 : Int)) else ([], chkT q.out path, -1)) = (l, 0, 0) := h2
            obtain ⟨l2, d, o⟩ := run_reads names s.length (roundsFor ws) (ntOf path) ⟨ws, []⟩ q he
            have o : q.out = l2 := o
            by_cases hc : chkT q.out path = 0
            · rw [if_pos hc] at h3
              injection h3 with h3 _
              rw [h3] at hc
              rw [hq] at d
              rw [← o, h3] at d
              exact ⟨d, hc⟩
            · rw [if_neg hc] at h3
              injection h3 with _ h3; injection h3 with h3 _
              exact absurd h3 hc
    · have hw : wordsL s = ([], 3, -1) := by unfold wordsL; rw [if_neg hl]
      rw [hw, if_neg (fun hh => by have h5 : (3 : Int) = 0 := hh.1; exact absurd h5 (by decide))] at h
      injection h with _ h; injection h with h _; exact absurd h (by decide)
  · rw [if_neg h0] at h
    injection h with _ h; injection h with h _; exact absurd h h0
end Go.Proofs.YtaogoabnidbbpaaDoor.PText
/-! TextTails -/
namespace Go.Proofs.YtaogoabnidbbpaaDoor.PText
open Go.RowKit Go.Proofs.YtaogoabnidbbpaaDoorW.PrintWords Go.Proofs.YtaogoabnidbbpaaDoorW.PrintLast Go.Proofs.YtaogoabnidbbpaaDoorW.PrintMore
set_option linter.unusedVariables false
set_option linter.unusedSimpArgs false
theorem check_inv {l : List Tk} {path : Bool} (h : chkT l path = 0) : l.length ≤ 512 ∧ ∃ all p, Trm.run 0 [] [] l = some (all, [p]) ∧ p.f0 = path ∧ p.f2 ≤ 64 := by
  unfold chkT at h
  split at h
  · exact absurd h (by decide)
  · rename_i hl
    refine ⟨by omega, ?_⟩
    unfold Trm.checkN at h
    split at h
    · rename_i all p hr
      split at h
      · rename_i hp
        split at h
        · exact absurd h (by decide)
        · rename_i hd
          exact ⟨all, p, hr, hp, by omega⟩
      · exact absurd h (by decide)
    · exact absurd h (by decide)
theorem check_val {l : List Tk} {path : Bool} {all : List Trm.Pt} {p : Trm.Pt} (hr : Trm.run 0 [] [] l = some (all, [p])) (hp : p.f0 = path) : chkT l path = if l.length > 512 then 3 else if p.f2 > 64 then 8 else 0 := by
  unfold chkT Trm.checkN
  rw [hr]
  simp only [hp, if_true]
theorem run_end {l : List Tk} {all : List Trm.Pt} {st st2 : List Trm.Pt} {t : Tk} {q : List Trm.Pt × Trm.Pt} (hr : Trm.run 0 [] [] l = some (all, st)) (hs : Trm.step l.length st t = some q) : Trm.run 0 [] [] (l ++ [t]) = some (all ++ [q.2], q.1 ++ [q.2]) := by
  rw [Trm.run_append, hr]
  simp only [Option.bind_some, Nat.zero_add]
  rw [Trm.run, hs]
  rfl
theorem run_two {x y : List Tk} {ax ay : List Trm.Pt} {px py : Trm.Pt} (hx : Trm.run 0 [] [] x = some (ax, [px])) (hy : Trm.run 0 [] [] y = some (ay, [py])) :
    Trm.run 0 [] [] (x ++ y) = some (ax ++ ay.map (Trm.later (x.length : Int)), [px, Trm.later (x.length : Int) py]) := by
  rw [Trm.run_append, hx]
  simp only [Option.bind_some]
  have h1 := Trm.run_later x.length y 0 [] []
  rw [hy] at h1
  have h2 := Trm.run_frame y (0 + x.length) [] [] ax [px] _ h1
  simpa using h2
/-- Two formulas and an operator of two. -/
theorem check_two {x y : List Tk} (hx : chkT x false = 0) (hy : chkT y false = 0) {op : Int} (hop : op = 11 ∨ op = 12 ∨ op = 13 ∨ op = 14 ∨ op = 15 ∨ op = 16) : ∃ d : Int, chkT (x ++ y ++ [(⟨op, 0⟩ : Tk)]) false = if (x ++ y ++ [(⟨op, 0⟩ : Tk)]).length > 512 then 3 else if d > 64 then 8 else 0 := by
  obtain ⟨hlx, ax, px, hrx, hpx, hdx⟩ := check_inv hx
  obtain ⟨hly, ay, py, hry, hpy, hdy⟩ := check_inv hy
  have h2 := run_two hrx hry
  have hpy2 : (Trm.later (x.length : Int) py).f0 = false := hpy
  obtain ⟨q, hq, hq0⟩ : ∃ q : Trm.Pt, Trm.step (x ++ y).length [px, Trm.later (x.length : Int) py] (⟨op, 0⟩ : Tk) = some ([], q) ∧ q.f0 = false := by
    rcases hop with rfl | rfl | rfl | rfl | rfl | rfl <;> exact ⟨_, by simp [Trm.step, Trm.takesN, Trm.fitsB, hpx, hpy2]; rfl, by simp [Trm.mk]⟩
  have h4 := run_end (st2 := []) h2 hq
  exact ⟨q.f2, check_val h4 hq0⟩
end Go.Proofs.YtaogoabnidbbpaaDoor.PText
/-! TextJoinsLaw -/
namespace Go.Proofs.YtaogoabnidbbpaaDoor.PText
open Go.RowKit Go.Proofs.YtaogoabnidbbpaaDoorW.PrintWords Go.Proofs.YtaogoabnidbbpaaDoorW.PrintLast Go.Proofs.YtaogoabnidbbpaaDoorW.PrintMore
set_option linter.unusedVariables false
set_option linter.unusedSimpArgs false
theorem shut_nil : Shut [] := by unfold Shut; decide
theorem paren_unary {names : List ByteArray} {sl r : List Sy} {l : List Tk} (h : Reads names .iff sl l []) (k1 k2 : Int) : Reads names .unary ((k1, [40]) :: (sl ++ (k2, [41]) :: r)) l r :=
  .atom (by show ∀ p ∈ pres, ([40] : Bs) ≠ p.1; decide) (by show ∀ p ∈ modals, ([40] : Bs) ≠ p.1; decide) (.paren (reads_ext h ((k2, [41]) :: r) (by unfold Shut; show ([41] : Bs) ∉ opSigns; decide)))
theorem joins_one {names : List ByteArray} {a : Bs} {x : List Tk} (ha : a.length ≤ 300) (h : readL names a false = (x, 0, 0)) : readL names (32 :: 32 :: 40 :: (a ++ [32, 41, 32])) false = (x, 0, 0) := by
  obtain ⟨h0, _, sl, hx, hr, hc⟩ := readL_ok h
  have hl : LexR (32 :: 32 :: 40 :: (a ++ [32, 41, 32])) ((0, [40]) :: (sl ++ [(0, [41])])) :=
    .blank (.blank (lex_one (by decide) (lex_app (.inr ⟨32, _, rfl, by decide⟩) hx (.blank (lex_one (by decide) (.blank .nil))))))
  rw [readL_of (path := false) h0 (by simp only [List.length_cons, List.length_append, List.length_nil]; omega) hl (iff_of_unary (paren_unary hr 0 0) shut_nil), if_pos hc]
/-- The operators of the law, in its order: their signs, their numbers. -/
def joinW : List Bs := [[60, 45, 62], [45, 62], [124], [38], [85], [82]]
def joinO : List Int := [14, 13, 12, 11, 15, 16]
def joinT (a w b : Bs) : Bs := 40 :: (a ++ 41 :: (w ++ 40 :: (b ++ [41])))
theorem joins_two {names : List ByteArray} {a b : Bs} {x y : List Tk} (ha : a.length ≤ 300) (hb : b.length ≤ 300) (h : readL names a false = (x, 0, 0)) (h' : readL names b false = (y, 0, 0)) (i : Nat) (hi : i < 6) :
    readL names (joinT a (joinW.getD i []) b) false = (x ++ y ++ [(⟨joinO.getD i 0, 0⟩ : Tk)], 0, 0) ∨ (readL names (joinT a (joinW.getD i []) b) false).2.1 = 3 ∨ (readL names (joinT a (joinW.getD i []) b) false).2.1 = 8 := by
  obtain ⟨h0, _, sa, hxa, hra, hca⟩ := readL_ok h
  obtain ⟨_, _, sb, hxb, hrb, hcb⟩ := readL_ok h'
  have tail : LexR (40 :: (b ++ [41])) ((0, [40]) :: (sb ++ [(0, [41])])) := lex_one (by decide) (lex_app (.inr ⟨41, _, rfl, by decide⟩) hxb (lex_one (by decide) .nil))
  have B : Reads names .unary ((0, [40]) :: (sb ++ [((0 : Int), ([41] : Bs))])) y [] := paren_unary hrb 0 0
  have B1 := til_of B rfl
  have B2 := and_of B1 (by decide)
  have B3 := or_of B2 (by decide)
  have B4 := imp_of B3 rfl
  have main : ∀ (w : Bs) (k : Int) (op : Int), w.length ≤ 3 → (op = 11 ∨ op = 12 ∨ op = 13 ∨ op = 14 ∨ op = 15 ∨ op = 16) → LexR (w ++ 40 :: (b ++ [41])) ((k, w) :: (0, [40]) :: (sb ++ [(0, [41])])) →
      (∀ A : Reads names .unary ((0, [40]) :: (sa ++ ((0 : Int), ([41] : Bs)) :: (k, w) :: (0, [40]) :: (sb ++ [(0, [41])]))) x ((k, w) :: (0, [40]) :: (sb ++ [(0, [41])])), Reads names .iff ((0, [40]) :: (sa ++ ((0 : Int), ([41] : Bs)) :: (k, w) :: (0, [40]) :: (sb ++ [(0, [41])]))) (x ++ y ++ [(⟨op, 0⟩ : Tk)]) []) →
      readL names (joinT a w b) false = (x ++ y ++ [(⟨op, 0⟩ : Tk)], 0, 0) ∨ (readL names (joinT a w b) false).2.1 = 3 ∨ (readL names (joinT a w b) false).2.1 = 8 := by
    intro w k op hw hop hl hr
    have hlex : LexR (joinT a w b) ((0, [40]) :: (sa ++ (0, [41]) :: (k, w) :: (0, [40]) :: (sb ++ [(0, [41])]))) := lex_one (by decide) (lex_app (.inr ⟨41, _, rfl, by decide⟩) hxa (lex_one (by decide) hl))
    obtain ⟨d, hd⟩ := check_two hca hcb hop
    rw [readL_of (path := false) h0 (by unfold joinT; simp only [List.length_cons, List.length_append, List.length_nil]; omega) hlex (hr (paren_unary hra 0 0)), hd]
    by_cases h1 : (x ++ y ++ [(⟨op, 0⟩ : Tk)]).length > 512
    · rw [if_pos h1]; exact .inr (.inl rfl)
    · rw [if_neg h1]
      by_cases h2 : d > 64
      · rw [if_pos h2]; exact .inr (.inr rfl)
      · rw [if_neg h2]; exact .inl rfl
  have app1 : ∀ op : Int, x ++ (y ++ [(⟨op, 0⟩ : Tk)] ++ []) = x ++ y ++ [(⟨op, 0⟩ : Tk)] := by intro op; simp
  match i, hi with
  | 0, _ =>
    refine main [60, 45, 62] 0 14 (by decide) (by decide) (lex_iff tail) (fun A => ?_)
    have := Reads.left (nt := .iff) rfl (imp_of (or_of (and_of (til_of A rfl) (by show ([60, 45, 62] : Bs) ≠ _; decide)) (by show ([60, 45, 62] : Bs) ≠ _; decide)) rfl) (.more rfl B4 (.rest rfl (by decide)))
    rwa [app1] at this
  | 1, _ =>
    refine main [45, 62] 0 13 (by decide) (by decide) (lex_imp tail) (fun A => ?_)
    exact iff_of (.right (s := [45, 62]) rfl rfl (or_of (and_of (til_of A rfl) (by show ([45, 62] : Bs) ≠ _; decide)) (by show ([45, 62] : Bs) ≠ _; decide)) B4) (by decide)
  | 2, _ =>
    refine main [124] 0 12 (by decide) (by decide) (lex_one (by decide) tail) (fun A => ?_)
    have := Reads.left (nt := .or) rfl (and_of (til_of A rfl) (by show ([124] : Bs) ≠ _; decide)) (.more rfl B2 (.rest rfl (by decide)))
    rw [app1] at this
    exact iff_of (imp_of this rfl) (by decide)
  | 3, _ =>
    refine main [38] 0 11 (by decide) (by decide) (lex_one (by decide) tail) (fun A => ?_)
    have := Reads.left (nt := .and) rfl (til_of A rfl) (.more rfl B1 (.rest rfl (by decide)))
    rw [app1] at this
    exact iff_of (imp_of (or_of this (by decide)) rfl) (by decide)
  | 4, _ =>
    have hw := lex_word (w := [85]) (v := 40 :: (b ++ [41])) (by decide) (by decide) (by decide) (fun c t e => by injection e with e _; subst e; decide) tail
    rw [show (sortL [85]).1 = 1 by decide] at hw
    refine main [85] 1 15 (by decide) (by decide) hw (fun A => ?_)
    exact iff_of (imp_of (or_of (and_of (.right (s := [85]) rfl rfl A B1) (by decide)) (by decide)) rfl) (by decide)
  | 5, _ =>
    have hw := lex_word (w := [82]) (v := 40 :: (b ++ [41])) (by decide) (by decide) (by decide) (fun c t e => by injection e with e _; subst e; decide) tail
    rw [show (sortL [82]).1 = 1 by decide] at hw
    refine main [82] 1 16 (by decide) (by decide) hw (fun A => ?_)
    exact iff_of (imp_of (or_of (and_of (.right (s := [82]) rfl rfl A B1) (by decide)) (by decide)) rfl) (by decide)
end Go.Proofs.YtaogoabnidbbpaaDoor.PText
