/- Texts of this work merged into one file, what the law does not need left out: TextReadL; TextLaws; TextLevels. Conditions stand in each law. -/
import Derived.Below
import Derived.Deep.Draws
import Derived.Deep.AppendLies
import Derived.Maps.AppendAt
import Derived.OwnWalk
import Derived.Laws.BytesArg
import Derived.Laws.MakeOwn
import Derived.Laws.OwnMore
import Derived.Deep.OwnRows
import Derived.Tactics
import Derived.Lib.ConvBytes
import Derived.Laws.Slices
import Derived.WalkKit
import Derived.KernelRfl
import Derived.RowKit3
import Derived.Deep.LoopGhost
import Derived.Deep.QuietTactic
import Derived.BigQuiet
import Derived.WideLaws
import Derived.Deep.DeepCutAuto
import Derived.Deep.CutBlock
import Derived.Deep.RegionHeld3
import Derived.Laws.Rows
import Derived.Lib.AppendStr
import Derived.ArgAppend
import Derived.Laws.IdiomCopy
import Derived.RowKit
import Derived.OrdersHeld
import Derived.Laws.BitsLemmas
import Derived.Laws.StructEq
import Derived.Test.YtaogoabnidbbpaaDoorProg
import Derived.Shelf.Strings.Builder1
import Derived.Shelf.Strings.BuilderF
import Derived.Shelf.Strings.BuilderK
import Derived.Shelf.Strings.Fields
import Derived.Lib.SmallJoins
import Derived.BigCall
import Derived.WalkMore
import Derived.Lib.OthersKept
import Derived.Lib.FrozenHead
import Derived.WalkSmall
import Derived.Maps.OwnOps
import Derived.Maps.Views
import Derived.Test.YtaogoabnidbbpaaDoorSf1
import Derived.Test.YtaogoabnidbbpaaDoorSf2
import Derived.Test.YtaogoabnidbbpaaDoorSf3
import Derived.Test.YtaogoabnidbbpaaDoorSf4
import Derived.Test.YtaogoabnidbbpaaDoorSf5
import Derived.Test.YtaogoabnidbbpaaDoorSf6
import Derived.Test.YtaogoabnidbbpaaDoorSf7
import Derived.Test.YtaogoabnidbbpaaDoorSf8
import Derived.Test.YtaogoabnidbbpaaDoorSf9
import Derived.Test.YtaogoabnidbbpaaDoorSf10
import Derived.Test.YtaogoabnidbbpaaDoorSf11
import Derived.Test.YtaogoabnidbbpaaDoorSf12
import Derived.Test.YtaogoabnidbbpaaDoorSf13
import Derived.Test.YtaogoabnidbbpaaDoorSf14
import Derived.Test.YtaogoabnidbbpaaDoorSf15
import Derived.Test.YtaogoabnidbbpaaDoorSf16
/-! TextReadL -/
namespace Go.Proofs.YtaogoabnidbbpaaDoor.PText
open Go.RowKit Go.Proofs.YtaogoabnidbbpaaDoorW.PrintWords Go.Proofs.YtaogoabnidbbpaaDoorW.PrintLast Go.Proofs.YtaogoabnidbbpaaDoorW.PrintMore
set_option linter.unusedVariables false
/-- Are tokens a formula's (path: a path's)? The error's number. -/
def chkT (l : List Tk) (path : Bool) : Int := if l.length > 512 then 3 else Trm.checkN l path
theorem chkT_ev (l : List Tk) (path : Bool) : Ev (fun k => term_check.f k l path) (chkT l path) := by
  unfold chkT
  split
  · rename_i h
    exact Ev.congr (f := fun _ => some 3) (fun k => by unfold term_check.f; rw [if_pos (by omega)]) (Ev.now _)
  · rename_i h
    exact Trm.check_ev l path (by omega)
theorem Check_ev2 (l : List Tk) : Ev (fun k => term_Check.f k l) (chkT l false) := Ev.congr (fun k => by unfold term_Check.f; cases term_check.f k l false <;> rfl) (chkT_ev l false)
theorem Path_ev2 (l : List Tk) : Ev (fun k => term_Path.f k l) (chkT l true) := Ev.congr (fun k => by unfold term_Path.f; cases term_check.f k l true <;> rfl) (chkT_ev l true)
def ntOf (path : Bool) : Nt := if path then .plus else .iff
/-- Rounds enough for the words. -/
def roundsFor (ws : List Wd) : Nat := 8 * ws.length + 8
/-- What is told behind the words. -/
def endL (path : Bool) : Option End → List Tk × Int × Int
  | none => ([], 0, 0)
  | some (.stop e a) => ([], e, a)
  | some (.go r) => if chkT r.out path = 0 then (r.out, 0, 0) else ([], chkT r.out path, -1)
def readL (names : List ByteArray) (s : Bs) (path : Bool) : List Tk × Int × Int :=
  if chk names = 0 then
    (if (wordsL s).2.1 = 0 ∧ (wordsL s).2.2 = 0 then endL path (readW names s.length (roundsFor (wordsL s).1) (ntOf path) (wordsL s).1) else ([], (wordsL s).2.1, (wordsL s).2.2))
  else ([], chk names, -1)
def parse_read.f (names : List ByteArray) (s : ByteArray) (path : Bool) : Option (List Tk × Int × Int) := some (readL names s.data.toList path)
theorem lex_len (n : Nat) : ∀ (s : Bs) (i : Nat) (ws : List Wd), lexF n s i = .ok ws → ws.length ≤ s.length := by
  induction n with
  | zero => intro s i ws h; rw [lexF] at h; cases h; exact Nat.zero_le _
  | succ n ih =>
    intro s i ws h
    cases s with
    | nil => rw [lexF] at h; cases h; exact Nat.le_refl _
    | cons c t =>
      rw [lexF_cons] at h
      split at h
      · have := ih t _ _ h; rw [List.length_cons]; omega
      · split at h
        · cases h
        · rename_i hne
          cases h2 : lexF n ((c :: t).drop (firstL (c :: t)).length) (i + (firstL (c :: t)).length) with
          | error e => rw [h2] at h; cases h
          | ok ws2 =>
            rw [h2] at h
            cases h
            have h3 := ih _ _ _ h2
            rw [List.length_drop] at h3
            have h4 : 1 ≤ (firstL (c :: t)).length := List.length_pos_iff.2 hne
            rw [List.length_cons] at h3 ⊢
            rw [List.length_cons]
            omega
theorem words_len (s : Bs) : (wordsL s).1.length ≤ 4096 := by
  unfold wordsL
  split
  · rename_i h
    cases h2 : lexF s.length s 0 with
    | error e => exact Nat.zero_le _
    | ok ws =>
      have := lex_len _ _ _ _ h2
      show ([] ++ ws).length ≤ _
      rw [List.nil_append]; omega
  · exact Nat.zero_le _
end Go.Proofs.YtaogoabnidbbpaaDoor.PText
/-! TextLaws -/
namespace Go.Proofs.YtaogoabnidbbpaaDoor.PText
open Go.RowKit Go.Proofs.YtaogoabnidbbpaaDoorW.PrintWords Go.Proofs.YtaogoabnidbbpaaDoorW.PrintLast Go.Proofs.YtaogoabnidbbpaaDoorW.PrintMore
set_option linter.unusedVariables false
/-- The operators behind an operand. -/
def opSigns : List Bs := [[60, 45, 62], [45, 62], [124], [38], [85], [82], [43], [59], [42]]
/-- No operator stands next. -/
def Shut (r : List Sy) : Prop := nextS r ∉ opSigns
section
variable {names : List ByteArray} {ws r : List Sy} {l : List Tk}
end
def LeE (a b : Option End) : Prop := ∀ e, a = some e → b = some e
theorem LeE.refl (a : Option End) : LeE a a := fun _ h => h
theorem LeE.none (a : Option End) : LeE .none a := fun _ h => by cases h
theorem LeE.then {x x' : Option End} {f f' : Rd → Option End} (h : LeE x x') (k : ∀ r, LeE (f r) (f' r)) : LeE (thenDo x f) (thenDo x' f') := by
  intro e he
  cases hx : x with
  | none => rw [hx] at he; cases he
  | some y =>
    rw [hx] at he
    rw [h y hx]
    cases y with
    | stop a b => exact he
    | go r => exact k r e he
theorem LeE.ite {c : Prop} [Decidable c] {a a' b b' : Option End} (h : LeE a a') (k : LeE b b') : LeE (if c then a else b) (if c then a' else b') := by
  split
  · exact h
  · exact k
theorem LeE.want {r : Rd} {last : Int} {s : Bs} {f f' : Rd → Option End} (h : ∀ r, LeE (f r) (f' r)) : LeE (r.want last s f) (r.want last s f') := by
  unfold Rd.want
  exact LeE.ite (h _) (LeE.refl _)
theorem stop_err (names : List ByteArray) (last : Int) (n : Nat) : ∀ (nt : Nt) (r : Rd) (e a : Int), run names last n nt r = some (.stop e a) → e ≠ 0 := by
  induction n with
  | zero => intro nt r e a h; rw [run] at h; cases h
  | succ n ih =>
    have t1 : ∀ (x : Nt) (q : Rd) (f : Rd → Option End) (e a : Int), (∀ q e a, f q = some (.stop e a) → e ≠ 0) → thenDo (run names last n x q) f = some (.stop e a) → e ≠ 0 := by
      intro x q f e a hf h
      cases hx : run names last n x q with
      | none => rw [hx] at h; cases h
      | some y =>
        rw [hx] at h
        cases y with
        | stop e' a' => cases h; exact ih x q _ _ hx
        | go q' => exact hf q' e a h
    have t2 : ∀ (q : Rd) (s : Bs) (f : Rd → Option End) (e a : Int), (∀ q e a, f q = some (.stop e a) → e ≠ 0) → q.want last s f = some (.stop e a) → e ≠ 0 := by
      intro q s f e a hf h
      unfold Rd.want at h
      split at h
      · exact hf _ _ _ h
      · cases h; decide
    have g1 : ∀ (q : Rd) (e a : Int), (some (End.go q) : Option End) = some (.stop e a) → e ≠ 0 := by intro q e a h; cases h
    intro nt r e a h
    cases nt with
    | iff => rw [run] at h; exact t1 _ _ _ _ _ (fun q e a => ih _ q e a) h
    | or => rw [run] at h; exact t1 _ _ _ _ _ (fun q e a => ih _ q e a) h
    | and => rw [run] at h; exact t1 _ _ _ _ _ (fun q e a => ih _ q e a) h
    | plus => rw [run] at h; exact t1 _ _ _ _ _ (fun q e a => ih _ q e a) h
    | seq => rw [run] at h; exact t1 _ _ _ _ _ (fun q e a => ih _ q e a) h
    | star => rw [run] at h; exact t1 _ _ _ _ _ (fun q e a => ih _ q e a) h
    | moreIff => rw [run] at h; split at h; exact t1 _ _ _ _ _ (fun q e a => ih _ _ e a) h; exact g1 _ _ _ h
    | moreOr => rw [run] at h; split at h; exact t1 _ _ _ _ _ (fun q e a => ih _ _ e a) h; exact g1 _ _ _ h
    | moreAnd => rw [run] at h; split at h; exact t1 _ _ _ _ _ (fun q e a => ih _ _ e a) h; exact g1 _ _ _ h
    | morePlus => rw [run] at h; split at h; exact t1 _ _ _ _ _ (fun q e a => ih _ _ e a) h; exact g1 _ _ _ h
    | moreSeq => rw [run] at h; split at h; exact t1 _ _ _ _ _ (fun q e a => ih _ _ e a) h; exact g1 _ _ _ h
    | stars => rw [run] at h; split at h; exact ih _ _ _ _ h; exact g1 _ _ _ h
    | imp =>
      rw [run] at h
      refine t1 _ _ _ _ _ (fun q e a h => ?_) h
      split at h
      · exact t1 _ _ _ _ _ (fun q e a => g1 _ e a) h
      · exact g1 _ _ _ h
    | til =>
      rw [run] at h
      refine t1 _ _ _ _ _ (fun q e a h => ?_) h
      split at h
      · exact t1 _ _ _ _ _ (fun q e a => g1 _ e a) h
      · split at h
        · exact t1 _ _ _ _ _ (fun q e a => g1 _ e a) h
        · exact g1 _ _ _ h
    | unary =>
      rw [run] at h
      split at h
      · exact t1 _ _ _ _ _ (fun q e a => g1 _ e a) h
      split at h
      · exact t1 _ _ _ _ _ (fun q e a => g1 _ e a) h
      split at h
      · exact t1 _ _ _ _ _ (fun q e a => g1 _ e a) h
      split at h
      · exact t1 _ _ _ _ _ (fun q e a => g1 _ e a) h
      split at h
      · exact t1 _ _ _ _ _ (fun q e a => g1 _ e a) h
      split at h
      · exact t1 _ _ _ _ _ (fun q e a h => t2 _ _ _ _ _ (fun q e a h => t1 _ _ _ _ _ (fun q e a => g1 _ e a) h) h) h
      split at h
      · exact t1 _ _ _ _ _ (fun q e a h => t2 _ _ _ _ _ (fun q e a h => t1 _ _ _ _ _ (fun q e a => g1 _ e a) h) h) h
      exact ih _ _ _ _ h
    | atom =>
      rw [run] at h
      split at h
      · exact g1 _ _ _ h
      split at h
      · exact g1 _ _ _ h
      split at h
      · exact g1 _ _ _ h
      split at h
      · exact t1 _ _ _ _ _ (fun q e a h => t2 _ _ _ _ _ (fun q e a => g1 _ e a) h) h
      unfold Rd.name at h
      split at h
      · cases h; decide
      · split at h
        · cases h; decide
        · split at h
          · cases h; decide
          · exact g1 _ _ _ h
    | bare =>
      rw [run] at h
      split at h
      · exact t1 _ _ _ _ _ (fun q e a h => t2 _ _ _ _ _ (fun q e a => g1 _ e a) h) h
      split at h
      · exact t1 _ _ _ _ _ (fun q e a => g1 _ e a) h
      split at h
      · exact t1 _ _ _ _ _ (fun q e a h => t2 _ _ _ _ _ (fun q e a => g1 _ e a) h) h
      cases h; decide
/-- What a text is that was read. -/
theorem readL_ok {names : List ByteArray} {s : Bs} {l : List Tk} {path : Bool} (h : readL names s path = (l, 0, 0)) : chk names = 0 ∧ s.length ≤ 4096 ∧ ∃ sl, LexR s sl ∧ Reads names (ntOf path) sl l [] ∧ chkT l path = 0 := by
  unfold readL at h
  by_cases h0 : chk names = 0
  · rw [if_pos h0] at h
    refine ⟨h0, ?_⟩
    by_cases hl : s.length ≤ 4096
    · refine ⟨hl, ?_⟩
      cases hx : lexF s.length s 0 with
      | error e =>
        have hw : wordsL s = ([], 140, (e : Int)) := by unfold wordsL; rw [if_pos hl, hx]; rfl
        rw [hw, if_neg (fun hh => by have h5 : (140 : Int) = 0 := hh.1; exact absurd h5 (by decide))] at h
        injection h with _ h; injection h with h _; have h5 : (140 : Int) = 0 := h; exact absurd h5 (by decide)
      | ok ws =>
        have hw : wordsL s = (ws, 0, 0) := by unfold wordsL; rw [if_pos hl, hx]; rfl
        rw [hw, if_pos ⟨rfl, rfl⟩] at h
        simp only at h
        refine ⟨ws.map sy, lex_to _ _ _ _ (Nat.le_refl _) hx, ?_⟩
        obtain ⟨e, he⟩ := run_total names s.length (roundsFor ws) (ntOf path) ⟨ws, []⟩ (by unfold roundsFor ntOf; cases path <;> simp [rank])
        unfold readW at h
        rw [he] at h
        cases e with
        | stop er a =>
          have h2 : ([], er, a) = (l, (0 : Int), (0 : Int)) := h
          injection h2 with _ h2; injection h2 with h2 _
          exact absurd h2 (stop_err _ _ _ _ _ _ _ he)
        | go q =>
          have h2 : endL path (match q.ws with | [] => some (End.go q) | _ :: _ => some (q.fail s.length 150)) = (l, 0, 0) := h
          cases hq : q.ws with
          | cons a b =>
            rw [hq] at h2
            have h3 : ([], (150 : Int), q.place s.length) = (l, (0 : Int), (0 : Int)) := h2
            injection h3 with _ h3; injection h3 with h3 _
            exact absurd h3 (by decide)
          | nil =>
            rw [hq] at h2
            have h3 : (if chkT q.out path = 0 then (q.out, (0 : Int), (0 : Int)) else ([], chkT q.out path, -1)) = (l, 0, 0) := h2
            obtain ⟨l2, d, o⟩ := run_reads names s.length (roundsFor ws) (ntOf path) ⟨ws, []⟩ q he
            have o : q.out = l2 := o
            by_cases hc : chkT q.out path = 0
            · rw [if_pos hc] at h3
              injection h3 with h3 _
              rw [h3] at hc
              rw [hq] at d
              rw [← o, h3] at d
              exact ⟨d, hc⟩
            · rw [if_neg hc] at h3
              injection h3 with _ h3; injection h3 with h3 _
              exact absurd h3 hc
    · have hw : wordsL s = ([], 3, -1) := by unfold wordsL; rw [if_neg hl]
      rw [hw, if_neg (fun hh => by have h5 : (3 : Int) = 0 := hh.1; exact absurd h5 (by decide))] at h
      injection h with _ h; injection h with h _; exact absurd h (by decide)
  · rw [if_neg h0] at h
    injection h with _ h; injection h with h _; exact absurd h h0
end Go.Proofs.YtaogoabnidbbpaaDoor.PText
/-! TextLevels -/
namespace Go.Proofs.YtaogoabnidbbpaaDoor.PText
open Go.RowKit Go.Proofs.YtaogoabnidbbpaaDoorW.PrintWords Go.Proofs.YtaogoabnidbbpaaDoorW.PrintLast Go.Proofs.YtaogoabnidbbpaaDoorW.PrintMore
set_option linter.unusedVariables false
/-- What follows holds no sign that binds tighter than level m: of a formula. -/
def Aft : Nat → List Sy → Prop
  | 6, _ => True
  | 5, r => nextS r ≠ [85] ∧ nextS r ≠ [82]
  | 4, r => (nextS r ≠ [85] ∧ nextS r ≠ [82]) ∧ nextS r ≠ [38]
  | 3, r => ((nextS r ≠ [85] ∧ nextS r ≠ [82]) ∧ nextS r ≠ [38]) ∧ nextS r ≠ [124]
  | 2, r => (((nextS r ≠ [85] ∧ nextS r ≠ [82]) ∧ nextS r ≠ [38]) ∧ nextS r ≠ [124]) ∧ nextS r ≠ [45, 62]
  | _, r => ((((nextS r ≠ [85] ∧ nextS r ≠ [82]) ∧ nextS r ≠ [38]) ∧ nextS r ≠ [124]) ∧ nextS r ≠ [45, 62]) ∧ nextS r ≠ [60, 45, 62]
/-- What follows holds no sign that binds tighter: of a path. -/
def AftP : Nat → List Sy → Prop
  | 4, _ => True
  | 3, r => nextS r ≠ [42]
  | 2, r => nextS r ≠ [42] ∧ nextS r ≠ [59]
  | _, r => (nextS r ≠ [42] ∧ nextS r ≠ [59]) ∧ nextS r ≠ [43]
/-- A formula's words, read at a level; where the level goes on in rounds, with whatever rounds follow. -/
def LvF (names : List ByteArray) : Nat → List Tk → List Sy → Prop
  | 6, b, ws => ∀ r, Reads names .unary (ws ++ r) b r
  | 5, b, ws => ∀ r, Aft 5 r → Reads names .til (ws ++ r) b r
  | 4, b, ws => ∀ r l2 ws2, Aft 5 r → Reads names .moreAnd r l2 ws2 → Reads names .and (ws ++ r) (b ++ l2) ws2
  | 3, b, ws => ∀ r l2 ws2, Aft 4 r → Reads names .moreOr r l2 ws2 → Reads names .or (ws ++ r) (b ++ l2) ws2
  | 2, b, ws => ∀ r, Aft 2 r → Reads names .imp (ws ++ r) b r
  | _, b, ws => ∀ r l2 ws2, Aft 2 r → Reads names .moreIff r l2 ws2 → Reads names .iff (ws ++ r) (b ++ l2) ws2
def LvP (names : List ByteArray) : Nat → List Tk → List Sy → Prop
  | 4, b, ws => ∀ r, Reads names .bare (ws ++ r) b r
  | 3, b, ws => ∀ r l2 ws2, Reads names .stars r l2 ws2 → Reads names .star (ws ++ r) (b ++ l2) ws2
  | 2, b, ws => ∀ r l2 ws2, AftP 3 r → Reads names .moreSeq r l2 ws2 → Reads names .seq (ws ++ r) (b ++ l2) ws2
  | _, b, ws => ∀ r l2 ws2, AftP 2 r → Reads names .morePlus r l2 ws2 → Reads names .plus (ws ++ r) (b ++ l2) ws2
section
variable {names : List ByteArray} {b : List Tk} {ws : List Sy}
end
/-- A part of strength n is read at each level from n down. -/
def GoodF (names : List ByteArray) (n : Int) (b : List Tk) (ws : List Sy) : Prop := ∀ m : Nat, 1 ≤ m → m ≤ 6 → (m : Int) ≤ n → LvF names m b ws
def GoodP (names : List ByteArray) (n : Int) (b : List Tk) (ws : List Sy) : Prop := ∀ m : Nat, 1 ≤ m → m ≤ 4 → (m : Int) ≤ n → LvP names m b ws
section
variable {names : List ByteArray} {a b : List Tk} {wa wb : List Sy} {k k1 k2 : Int}
end
end Go.Proofs.YtaogoabnidbbpaaDoor.PText
