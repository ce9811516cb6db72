/- Texts of this work merged into one file, what the law does not need left out: TextReadL; TextLaws; TextLevels. Conditions stand in each law. -/
import Derived.Below
import Derived.Deep.Draws
import Derived.Deep.AppendLies
import Derived.Maps.AppendAt
import Derived.OwnWalk
import Derived.Laws.BytesArg
import Derived.Laws.MakeOwn
import Derived.Laws.OwnMore
import Derived.Deep.OwnRows
import Derived.Tactics
import Derived.Lib.ConvBytes
import Derived.Laws.Slices
import Derived.WalkKit
import Derived.KernelRfl
import Derived.RowKit3
import Derived.Deep.LoopGhost
import Derived.Deep.QuietTactic
import Derived.BigQuiet
import Derived.WideLaws
import Derived.Deep.DeepCutAuto
import Derived.Deep.CutBlock
import Derived.Deep.RegionHeld3
import Derived.Laws.Rows
import Derived.Lib.AppendStr
import Derived.ArgAppend
import Derived.Laws.IdiomCopy
import Derived.RowKit
import Derived.OrdersHeld
import Derived.Laws.BitsLemmas
import Derived.Laws.StructEq
import Derived.Test.YtaogoabnidbbpaaDoorProg
import Derived.Shelf.Strings.Builder1
import Derived.Shelf.Strings.BuilderF
import Derived.Shelf.Strings.BuilderK
import Derived.Shelf.Strings.Fields
import Derived.Lib.SmallJoins
import Derived.BigCall
import Derived.WalkMore
import Derived.Lib.OthersKept
import Derived.Lib.FrozenHead
import Derived.WalkSmall
import Derived.Maps.OwnOps
import Derived.Maps.Views
import Derived.Test.YtaogoabnidbbpaaDoorSb1
import Derived.Test.YtaogoabnidbbpaaDoorSb2
import Derived.Test.YtaogoabnidbbpaaDoorSb3
import Derived.Test.YtaogoabnidbbpaaDoorSb4
import Derived.Test.YtaogoabnidbbpaaDoorSb5
import Derived.Test.YtaogoabnidbbpaaDoorSb6
import Derived.Test.YtaogoabnidbbpaaDoorSb7
import Derived.Test.YtaogoabnidbbpaaDoorSb8
import Derived.Test.YtaogoabnidbbpaaDoorSb9
import Derived.Test.YtaogoabnidbbpaaDoorSb10
import Derived.Test.YtaogoabnidbbpaaDoorSb11
import Derived.Test.YtaogoabnidbbpaaDoorSb12
import Derived.Test.YtaogoabnidbbpaaDoorSb13
import Derived.Test.YtaogoabnidbbpaaDoorSb14
import Derived.Test.YtaogoabnidbbpaaDoorSb15
import Derived.Test.YtaogoabnidbbpaaDoorSb16
/-! TextReadL -/
namespace Go.Proofs.YtaogoabnidbbpaaDoor.PText
open Go.RowKit Go.Proofs.YtaogoabnidbbpaaDoorW.PrintWords Go.Proofs.YtaogoabnidbbpaaDoorW.PrintLast Go.Proofs.YtaogoabnidbbpaaDoorW.PrintMore
set_option linter.unusedVariables false
/-- Are tokens a formula's (path: a path's)? The error's number. -/
def chkT (l : List Tk) (path : Bool) : Int := if l.length > 512 then 3 else Trm.checkN l path
theorem chkT_ev (l : List Tk) (path : Bool) : Ev (fun k => term_check.f k l path) (chkT l path) := by
  unfold chkT
  split
  · rename_i h
    exact Ev.congr (f := fun _ => some 3) (fun k => by unfold term_check.f; rw [if_pos (by omega)]) (Ev.now _)
  · rename_i h
    exact Trm.check_ev l path (by omega)
theorem Check_ev2 (l : List Tk) : Ev (fun k => term_Check.f k l) (chkT l false) := Ev.congr (fun k => by unfold term_Check.f; cases term_check.f k l false <;> rfl) (chkT_ev l false)
theorem Path_ev2 (l : List Tk) : Ev (fun k => term_Path.f k l) (chkT l true) := Ev.congr (fun k => by unfold term_Path.f; cases term_check.f k l true <;> rfl) (chkT_ev l true)
def ntOf (path : Bool) : Nt := if path then .plus else .iff
/-- Rounds enough for the words. -/
def roundsFor (ws : List Wd) : Nat := 8 * ws.length + 8
/-- What is told behind the words. -/
def endL (path : Bool) : Option End → List Tk × Int × Int
  | none => ([], 0, 0)
  | some (.stop e a) => ([], e, a)
  | some (.go r) => if chkT r.out path = 0 then (r.out, 0, 0) else ([], chkT r.out path, -1)
def readL (names : List ByteArray) (s : Bs) (path : Bool) : List Tk × Int × Int :=
  if chk names = 0 then
    (if (wordsL s).2.1 = 0 ∧ (wordsL s).2.2 = 0 then endL path (readW names s.length (roundsFor (wordsL s).1) (ntOf path) (wordsL s).1) else ([], (wordsL s).2.1, (wordsL s).2.2))
  else ([], chk names, -1)
def parse_read.f (names : List ByteArray) (s : ByteArray) (path : Bool) : Option (List Tk × Int × Int) := some (readL names s.data.toList path)
theorem lex_len (n : Nat) : ∀ (s : Bs) (i : Nat) (ws : List Wd), lexF n s i = .ok ws → ws.length ≤ s.length := by
  induction n with
  | zero => intro s i ws h; rw [lexF] at h; cases h; exact Nat.zero_le _
  | succ n ih =>
    intro s i ws h
    cases s with
    | nil => rw [lexF] at h; cases h; exact Nat.le_refl _
    | cons c t =>
      rw [lexF_cons] at h
      split at h
      · have := ih t _ _ h; rw [List.length_cons]; omega
      · split at h
        · cases h
        · rename_i hne
          cases h2 : lexF n ((c :: t).drop (firstL (c :: t)).length) (i + (firstL (c :: t)).length) with
          | error e => rw [h2] at h; cases h
          | ok ws2 =>
            rw [h2] at h
            cases h
            have h3 := ih _ _ _ h2
            rw [List.length_drop] at h3
            have h4 : 1 ≤ (firstL (c :: t)).length := List.length_pos_iff.2 hne
            rw [List.length_cons] at h3 ⊢
            rw [List.length_cons]
            omega
theorem words_len (s : Bs) : (wordsL s).1.length ≤ 4096 := by
  unfold wordsL
  split
  · rename_i h
    cases h2 : lexF s.length s 0 with
    | error e => exact Nat.zero_le _
    | ok ws =>
      have := lex_len _ _ _ _ h2
      show ([] ++ ws).length ≤ _
      rw [List.nil_append]; omega
  · exact Nat.zero_le _
end Go.Proofs.YtaogoabnidbbpaaDoor.PText
/-! TextLaws -/
namespace Go.Proofs.YtaogoabnidbbpaaDoor.PText
open Go.RowKit Go.Proofs.YtaogoabnidbbpaaDoorW.PrintWords Go.Proofs.YtaogoabnidbbpaaDoorW.PrintLast Go.Proofs.YtaogoabnidbbpaaDoorW.PrintMore
set_option linter.unusedVariables false
/-- The operators behind an operand. -/
def opSigns : List Bs := [[60, 45, 62], [45, 62], [124], [38], [85], [82], [43], [59], [42]]
/-- No operator stands next. -/
def Shut (r : List Sy) : Prop := nextS r ∉ opSigns
section
variable {names : List ByteArray} {ws r : List Sy} {l : List Tk}
theorem til_of (h : Reads names .unary ws l r) (hn : righty .til (nextS r) = none) : Reads names .til ws l r := .one rfl h hn
theorem imp_of (h : Reads names .or ws l r) (hn : righty .imp (nextS r) = none) : Reads names .imp ws l r := .one rfl h hn
end
/-- How a path begins. -/
theorem bare_head {names : List ByteArray} {ws r : List Sy} {l : List Tk} (h : Reads names .bare ws l r) : ∃ k w t, ws = (k, w) :: t ∧ (w = [123] ∨ w = [63] ∨ w = [40]) := by
  cases h with
  | left h _ _ => cases h
  | more h _ _ => cases h
  | rest h _ => cases h
  | one h _ _ => cases h
  | right h _ _ _ => cases h
  | step _ => exact ⟨_, _, _, rfl, .inl rfl⟩
  | test _ => exact ⟨_, _, _, rfl, .inr (.inl rfl)⟩
  | group _ => exact ⟨_, _, _, rfl, .inr (.inr rfl)⟩
theorem left_inv {names : List ByteArray} {nt b m : Nt} {ws r : List Sy} {l : List Tk} (hl : lefty nt = some (b, m)) (h : Reads names nt ws l r) : ∃ l1 ws1 l2, Reads names b ws l1 ws1 ∧ Reads names m ws1 l2 r ∧ l = l1 ++ l2 := by
  cases h with
  | left h d1 d2 => rw [hl] at h; cases h; exact ⟨_, _, _, d1, d2, rfl⟩
  | more h _ _ => cases nt <;> cases hl <;> cases h
  | rest h _ => cases nt <;> cases hl <;> cases h
  | one h _ _ => cases nt <;> cases hl <;> cases h
  | right h _ _ _ => cases nt <;> cases hl <;> cases h
  | _ => cases hl
theorem plus_head {names : List ByteArray} {ws r : List Sy} {l : List Tk} (h : Reads names .plus ws l r) : ∃ k w t, ws = (k, w) :: t ∧ (w = [123] ∨ w = [63] ∨ w = [40]) := by
  obtain ⟨_, _, _, d1, -, -⟩ := left_inv (nt := .plus) rfl h
  obtain ⟨_, _, _, d2, -, -⟩ := left_inv (nt := .seq) rfl d1
  obtain ⟨_, _, _, d3, -, -⟩ := left_inv (nt := .star) rfl d2
  exact bare_head d3
def LeE (a b : Option End) : Prop := ∀ e, a = some e → b = some e
theorem LeE.refl (a : Option End) : LeE a a := fun _ h => h
theorem LeE.none (a : Option End) : LeE .none a := fun _ h => by cases h
theorem LeE.then {x x' : Option End} {f f' : Rd → Option End} (h : LeE x x') (k : ∀ r, LeE (f r) (f' r)) : LeE (thenDo x f) (thenDo x' f') := by
  intro e he
  cases hx : x with
  | none => rw [hx] at he; cases he
  | some y =>
    rw [hx] at he
    rw [h y hx]
    cases y with
    | stop a b => exact he
    | go r => exact k r e he
theorem LeE.ite {c : Prop} [Decidable c] {a a' b b' : Option End} (h : LeE a a') (k : LeE b b') : LeE (if c then a else b) (if c then a' else b') := by
  split
  · exact h
  · exact k
theorem LeE.want {r : Rd} {last : Int} {s : Bs} {f f' : Rd → Option End} (h : ∀ r, LeE (f r) (f' r)) : LeE (r.want last s f) (r.want last s f') := by
  unfold Rd.want
  exact LeE.ite (h _) (LeE.refl _)
theorem run_mono1 (names : List ByteArray) (last : Int) (n : Nat) : ∀ (nt : Nt) (r : Rd), LeE (run names last n nt r) (run names last (n + 1) nt r) := by
  induction n with
  | zero => intro nt r e h; rw [run] at h; cases h
  | succ n ih =>
    intro nt r
    cases nt <;> rw [run, run]
    all_goals repeat' first
      | exact ih _ _
      | exact LeE.refl _
      | refine LeE.ite ?_ ?_
      | refine LeE.then ?_ (fun r => ?_)
      | refine LeE.want (fun r => ?_)
theorem run_mono {names : List ByteArray} {last : Int} {n m : Nat} (h : n ≤ m) {nt : Nt} {r : Rd} {e : End} (he : run names last n nt r = some e) : run names last m nt r = some e := by
  obtain ⟨d, rfl⟩ := Nat.exists_eq_add_of_le h
  induction d with
  | zero => exact he
  | succ d ih => exact run_mono1 names last (n + d) nt r e (ih (by omega))
theorem words_of {s : Bs} {l : List Sy} (hl : s.length ≤ 4096) (h : LexR s l) : ∃ ws, wordsL s = (ws, 0, 0) ∧ ws.map sy = l := by
  obtain ⟨ws, h1, h2⟩ := lex_from h s.length 0 (Nat.le_refl _)
  refine ⟨ws, ?_, h2⟩
  unfold wordsL
  rw [if_pos hl, h1]
  rfl
theorem readW_of {names : List ByteArray} {last : Int} {path : Bool} {ws : List Wd} {l : List Tk} (h : Reads names (ntOf path) (ws.map sy) l []) : ∃ q : Rd, readW names last (roundsFor ws) (ntOf path) ws = some (.go q) ∧ q.out = l := by
  obtain ⟨e, he⟩ := run_total names last (roundsFor ws) (ntOf path) ⟨ws, []⟩ (by unfold roundsFor ntOf; cases path <;> simp [rank])
  obtain ⟨n0, hn0⟩ := reads_run h
  obtain ⟨q, h1, h2, h3⟩ := hn0 (n0 + roundsFor ws) (Nat.le_add_right _ _) last ⟨ws, []⟩ rfl
  have h4 := run_mono (Nat.le_add_left (roundsFor ws) n0) he
  rw [h4] at h1
  obtain rfl := Option.some.inj h1
  have hq : q.ws = [] := List.map_eq_nil_iff.1 h2
  refine ⟨q, ?_, by rw [h3]; rfl⟩
  unfold readW
  rw [he]
  show (match q.ws with | [] => some (End.go q) | _ :: _ => some (q.fail last 150)) = _
  rw [hq]
/-- What is told of a text whose words, and whose reading, are known. -/
theorem readL_of {names : List ByteArray} {s : Bs} {sl : List Sy} {l : List Tk} {path : Bool} (h0 : chk names = 0) (hl : s.length ≤ 4096) (hx : LexR s sl) (hr : Reads names (ntOf path) sl l []) :
    readL names s path = if chkT l path = 0 then (l, 0, 0) else ([], chkT l path, -1) := by
  obtain ⟨ws, h1, rfl⟩ := words_of hl hx
  obtain ⟨q, h2, h3⟩ := readW_of (last := s.length) hr
  unfold readL
  rw [if_pos h0, h1, if_pos ⟨rfl, rfl⟩]
  simp only
  rw [h2]
  show (if chkT q.out path = 0 then (q.out, (0 : Int), (0 : Int)) else ([], chkT q.out path, -1)) = _
  rw [h3]
end Go.Proofs.YtaogoabnidbbpaaDoor.PText
/-! TextLevels -/
namespace Go.Proofs.YtaogoabnidbbpaaDoor.PText
open Go.RowKit Go.Proofs.YtaogoabnidbbpaaDoorW.PrintWords Go.Proofs.YtaogoabnidbbpaaDoorW.PrintLast Go.Proofs.YtaogoabnidbbpaaDoorW.PrintMore
set_option linter.unusedVariables false
/-- What follows holds no sign that binds tighter than level m: of a formula. -/
def Aft : Nat → List Sy → Prop
  | 6, _ => True
  | 5, r => nextS r ≠ [85] ∧ nextS r ≠ [82]
  | 4, r => (nextS r ≠ [85] ∧ nextS r ≠ [82]) ∧ nextS r ≠ [38]
  | 3, r => ((nextS r ≠ [85] ∧ nextS r ≠ [82]) ∧ nextS r ≠ [38]) ∧ nextS r ≠ [124]
  | 2, r => (((nextS r ≠ [85] ∧ nextS r ≠ [82]) ∧ nextS r ≠ [38]) ∧ nextS r ≠ [124]) ∧ nextS r ≠ [45, 62]
  | _, r => ((((nextS r ≠ [85] ∧ nextS r ≠ [82]) ∧ nextS r ≠ [38]) ∧ nextS r ≠ [124]) ∧ nextS r ≠ [45, 62]) ∧ nextS r ≠ [60, 45, 62]
/-- What follows holds no sign that binds tighter: of a path. -/
def AftP : Nat → List Sy → Prop
  | 4, _ => True
  | 3, r => nextS r ≠ [42]
  | 2, r => nextS r ≠ [42] ∧ nextS r ≠ [59]
  | _, r => (nextS r ≠ [42] ∧ nextS r ≠ [59]) ∧ nextS r ≠ [43]
/-- A formula's words, read at a level; where the level goes on in rounds, with whatever rounds follow. -/
def LvF (names : List ByteArray) : Nat → List Tk → List Sy → Prop
  | 6, b, ws => ∀ r, Reads names .unary (ws ++ r) b r
  | 5, b, ws => ∀ r, Aft 5 r → Reads names .til (ws ++ r) b r
  | 4, b, ws => ∀ r l2 ws2, Aft 5 r → Reads names .moreAnd r l2 ws2 → Reads names .and (ws ++ r) (b ++ l2) ws2
  | 3, b, ws => ∀ r l2 ws2, Aft 4 r → Reads names .moreOr r l2 ws2 → Reads names .or (ws ++ r) (b ++ l2) ws2
  | 2, b, ws => ∀ r, Aft 2 r → Reads names .imp (ws ++ r) b r
  | _, b, ws => ∀ r l2 ws2, Aft 2 r → Reads names .moreIff r l2 ws2 → Reads names .iff (ws ++ r) (b ++ l2) ws2
def LvP (names : List ByteArray) : Nat → List Tk → List Sy → Prop
  | 4, b, ws => ∀ r, Reads names .bare (ws ++ r) b r
  | 3, b, ws => ∀ r l2 ws2, Reads names .stars r l2 ws2 → Reads names .star (ws ++ r) (b ++ l2) ws2
  | 2, b, ws => ∀ r l2 ws2, AftP 3 r → Reads names .moreSeq r l2 ws2 → Reads names .seq (ws ++ r) (b ++ l2) ws2
  | _, b, ws => ∀ r l2 ws2, AftP 2 r → Reads names .morePlus r l2 ws2 → Reads names .plus (ws ++ r) (b ++ l2) ws2
section
variable {names : List ByteArray} {b : List Tk} {ws : List Sy}
theorem til_none {r : List Sy} (h : Aft 5 r) : righty .til (nextS r) = none := by
  rw [righty_til, if_neg h.1, if_neg h.2]
theorem lv56 (h : LvF names 6 b ws) : LvF names 5 b ws := fun r hr => til_of (h r) (til_none hr)
theorem lv45 (h : LvF names 5 b ws) : LvF names 4 b ws := fun r l2 ws2 hr h2 => .left rfl (h r hr) h2
theorem lv4_end (h : LvF names 4 b ws) (r : List Sy) (hr : Aft 4 r) : Reads names .and (ws ++ r) b r := by
  have := h r [] r hr.1 (.rest rfl hr.2)
  rwa [List.append_nil] at this
theorem lv34 (h : LvF names 4 b ws) : LvF names 3 b ws := fun r l2 ws2 hr h2 => .left rfl (lv4_end h r hr) h2
theorem lv3_end (h : LvF names 3 b ws) (r : List Sy) (hr : Aft 3 r) : Reads names .or (ws ++ r) b r := by
  have := h r [] r hr.1 (.rest rfl hr.2)
  rwa [List.append_nil] at this
theorem lv23 (h : LvF names 3 b ws) : LvF names 2 b ws := fun r hr => imp_of (lv3_end h r hr.1) (by rw [righty_imp, if_neg hr.2])
theorem lv12 (h : LvF names 2 b ws) : LvF names 1 b ws := fun r l2 ws2 hr h2 => .left rfl (h r hr) h2
theorem lv1_end (h : LvF names 1 b ws) (r : List Sy) (hr : Aft 1 r) : Reads names .iff (ws ++ r) b r := by
  have := h r [] r hr.1 (.rest rfl hr.2)
  rwa [List.append_nil] at this
theorem lp34 (h : LvP names 4 b ws) : LvP names 3 b ws := fun r l2 ws2 h2 => .left rfl (h r) h2
theorem lp3_end (h : LvP names 3 b ws) (r : List Sy) (hr : AftP 3 r) : Reads names .star (ws ++ r) b r := by
  have := h r [] r (.unstar hr)
  rwa [List.append_nil] at this
theorem lp23 (h : LvP names 3 b ws) : LvP names 2 b ws := fun r l2 ws2 hr h2 => .left rfl (lp3_end h r hr) h2
theorem lp2_end (h : LvP names 2 b ws) (r : List Sy) (hr : AftP 2 r) : Reads names .seq (ws ++ r) b r := by
  have := h r [] r hr.1 (.rest rfl hr.2)
  rwa [List.append_nil] at this
theorem lp12 (h : LvP names 2 b ws) : LvP names 1 b ws := fun r l2 ws2 hr h2 => .left rfl (lp2_end h r hr) h2
theorem lp1_end (h : LvP names 1 b ws) (r : List Sy) (hr : AftP 1 r) : Reads names .plus (ws ++ r) b r := by
  have := h r [] r hr.1 (.rest rfl hr.2)
  rwa [List.append_nil] at this
end
/-- A part of strength n is read at each level from n down. -/
def GoodF (names : List ByteArray) (n : Int) (b : List Tk) (ws : List Sy) : Prop := ∀ m : Nat, 1 ≤ m → m ≤ 6 → (m : Int) ≤ n → LvF names m b ws
def GoodP (names : List ByteArray) (n : Int) (b : List Tk) (ws : List Sy) : Prop := ∀ m : Nat, 1 ≤ m → m ≤ 4 → (m : Int) ≤ n → LvP names m b ws
theorem good_of {names : List ByteArray} {n : Int} {b : List Tk} {ws : List Sy} {k : Nat} (hk : 1 ≤ k) (hk6 : k ≤ 6) (hn : n ≤ k ∨ k = 6) (h : LvF names k b ws) : GoodF names n b ws := by
  intro m h1 h6 hm
  have hmk : m ≤ k := by omega
  clear hm hn
  have down : ∀ j : Nat, j + 1 ≤ 6 → 1 ≤ j → LvF names (j + 1) b ws → LvF names j b ws := by
    intro j hj h1 h
    match j, hj, h1, h with
    | 5, _, _, h => exact lv56 h
    | 4, _, _, h => exact lv45 h
    | 3, _, _, h => exact lv34 h
    | 2, _, _, h => exact lv23 h
    | 1, _, _, h => exact lv12 h
  obtain ⟨d, rfl⟩ : ∃ d, k = m + d := ⟨k - m, by omega⟩
  clear hmk hk
  induction d with
  | zero => exact h
  | succ d ih => exact ih (by omega) (down (m + d) (by omega) (by omega) h)
theorem goodP_of {names : List ByteArray} {n : Int} {b : List Tk} {ws : List Sy} {k : Nat} (hk : 1 ≤ k) (hk4 : k ≤ 4) (hn : n ≤ k) (h : LvP names k b ws) : GoodP names n b ws := by
  intro m h1 h4 hm
  have hmk : m ≤ k := by omega
  clear hm hn
  have down : ∀ j : Nat, j + 1 ≤ 4 → 1 ≤ j → LvP names (j + 1) b ws → LvP names j b ws := by
    intro j hj h1 h
    match j, hj, h1, h with
    | 3, _, _, h => exact lp34 h
    | 2, _, _, h => exact lp23 h
    | 1, _, _, h => exact lp12 h
  obtain ⟨d, rfl⟩ : ∃ d, k = m + d := ⟨k - m, by omega⟩
  clear hmk hk
  induction d with
  | zero => exact h
  | succ d ih => exact ih (by omega) (down (m + d) (by omega) (by omega) h)
section
variable {names : List ByteArray} {a b : List Tk} {wa wb : List Sy} {k k1 k2 : Int}
theorem mk_and (ha : LvF names 4 a wa) (hb : LvF names 5 b wb) : LvF names 4 (a ++ b ++ [(⟨11, 0⟩ : Tk)]) (wa ++ (k, [38]) :: wb) := by
  intro r l2 ws2 hr h2
  have h3 : Reads names .moreAnd ((k, [38]) :: (wb ++ r)) (b ++ [(⟨11, 0⟩ : Tk)] ++ l2) ws2 := .more rfl (hb r hr) h2
  have := ha ((k, [38]) :: (wb ++ r)) _ _ ⟨by show ([38] : Bs) ≠ [85]; decide, by show ([38] : Bs) ≠ [82]; decide⟩ h3
  simpa [List.append_assoc] using this
theorem mk_or (ha : LvF names 3 a wa) (hb : LvF names 4 b wb) : LvF names 3 (a ++ b ++ [(⟨12, 0⟩ : Tk)]) (wa ++ (k, [124]) :: wb) := by
  intro r l2 ws2 hr h2
  have h3 : Reads names .moreOr ((k, [124]) :: (wb ++ r)) (b ++ [(⟨12, 0⟩ : Tk)] ++ l2) ws2 := .more rfl (lv4_end hb r hr) h2
  have := ha ((k, [124]) :: (wb ++ r)) _ _ ⟨⟨by show ([124] : Bs) ≠ [85]; decide, by show ([124] : Bs) ≠ [82]; decide⟩, by show ([124] : Bs) ≠ [38]; decide⟩ h3
  simpa [List.append_assoc] using this
theorem mk_iff (ha : LvF names 1 a wa) (hb : LvF names 2 b wb) : LvF names 1 (a ++ b ++ [(⟨14, 0⟩ : Tk)]) (wa ++ (k, [60, 45, 62]) :: wb) := by
  intro r l2 ws2 hr h2
  have h3 : Reads names .moreIff ((k, [60, 45, 62]) :: (wb ++ r)) (b ++ [(⟨14, 0⟩ : Tk)] ++ l2) ws2 := .more rfl (hb r hr) h2
  have := ha ((k, [60, 45, 62]) :: (wb ++ r)) _ _ ⟨⟨⟨⟨by show ([60, 45, 62] : Bs) ≠ [85]; decide, by show ([60, 45, 62] : Bs) ≠ [82]; decide⟩, by show ([60, 45, 62] : Bs) ≠ [38]; decide⟩, by show ([60, 45, 62] : Bs) ≠ [124]; decide⟩, by show ([60, 45, 62] : Bs) ≠ [45, 62]; decide⟩ h3
  simpa [List.append_assoc] using this
theorem mk_imp (ha : LvF names 3 a wa) (hb : LvF names 2 b wb) : LvF names 2 (a ++ b ++ [(⟨13, 0⟩ : Tk)]) (wa ++ (k, [45, 62]) :: wb) := by
  intro r hr
  have h3 := lv3_end ha ((k, [45, 62]) :: (wb ++ r)) ⟨⟨⟨by show ([45, 62] : Bs) ≠ [85]; decide, by show ([45, 62] : Bs) ≠ [82]; decide⟩, by show ([45, 62] : Bs) ≠ [38]; decide⟩, by show ([45, 62] : Bs) ≠ [124]; decide⟩
  have := Reads.right (nt := .imp) rfl (s := [45, 62]) (op := 13) rfl h3 (hb r hr)
  simpa [List.append_assoc] using this
theorem mk_til {s : Bs} {op : Int} (hs : righty .til s = some op) (ha : LvF names 6 a wa) (hb : LvF names 5 b wb) : LvF names 5 (a ++ b ++ [(⟨op, 0⟩ : Tk)]) (wa ++ (k, s) :: wb) := by
  intro r hr
  have := Reads.right (nt := .til) rfl hs (ha ((k, s) :: (wb ++ r))) (hb r hr)
  simpa [List.append_assoc] using this
theorem mk_pre {s : Bs} {op : Int} (hs : (s, op) ∈ pres) (ha : LvF names 6 a wa) : LvF names 6 (a ++ [(⟨op, 0⟩ : Tk)]) ((k, s) :: wa) := fun r => .pre hs (ha r)
theorem mk_modal {o s : Bs} {op : Int} (hs : (o, s, op) ∈ modals) (ha : LvP names 1 a wa) (hb : LvF names 6 b wb) : LvF names 6 (a ++ b ++ [(⟨op, 0⟩ : Tk)]) ((k1, o) :: (wa ++ (k2, s) :: wb)) := by
  intro r
  have hA : AftP 1 ((k2, s) :: (wb ++ r)) := by
    have : s = [62] ∨ s = [93] := by unfold modals at hs; simp at hs; rcases hs with ⟨_, h, _⟩ | ⟨_, h, _⟩ <;> simp [h]
    rcases this with rfl | rfl
    · exact ⟨⟨by show ([62] : Bs) ≠ [42]; decide, by show ([62] : Bs) ≠ [59]; decide⟩, by show ([62] : Bs) ≠ [43]; decide⟩
    · exact ⟨⟨by show ([93] : Bs) ≠ [42]; decide, by show ([93] : Bs) ≠ [59]; decide⟩, by show ([93] : Bs) ≠ [43]; decide⟩
  have := Reads.modal (k1 := k1) hs (lp1_end ha _ hA) (hb r)
  simpa [List.append_assoc] using this
theorem mk_seq (ha : LvP names 2 a wa) (hb : LvP names 3 b wb) : LvP names 2 (a ++ b ++ [(⟨22, 0⟩ : Tk)]) (wa ++ (k, [59]) :: wb) := by
  intro r l2 ws2 hr h2
  have h3 : Reads names .moreSeq ((k, [59]) :: (wb ++ r)) (b ++ [(⟨22, 0⟩ : Tk)] ++ l2) ws2 := .more rfl (lp3_end hb r hr) h2
  have := ha ((k, [59]) :: (wb ++ r)) _ _ (by show ([59] : Bs) ≠ [42]; decide) h3
  simpa [List.append_assoc] using this
theorem mk_plus (ha : LvP names 1 a wa) (hb : LvP names 2 b wb) : LvP names 1 (a ++ b ++ [(⟨21, 0⟩ : Tk)]) (wa ++ (k, [43]) :: wb) := by
  intro r l2 ws2 hr h2
  have h3 : Reads names .morePlus ((k, [43]) :: (wb ++ r)) (b ++ [(⟨21, 0⟩ : Tk)] ++ l2) ws2 := .more rfl (lp2_end hb r hr) h2
  have := ha ((k, [43]) :: (wb ++ r)) _ _ ⟨by show ([43] : Bs) ≠ [42]; decide, by show ([43] : Bs) ≠ [59]; decide⟩ h3
  simpa [List.append_assoc] using this
theorem mk_star (ha : LvP names 3 a wa) : LvP names 3 (a ++ [(⟨23, 0⟩ : Tk)]) (wa ++ [(k, [42])]) := by
  intro r l2 ws2 h2
  have := ha ((k, [42]) :: r) _ _ (.star h2)
  simpa [List.append_assoc] using this
theorem mk_step (ha : LvF names 1 a wa) : LvP names 4 (a ++ [(⟨19, 0⟩ : Tk)]) ((k1, [123]) :: (wa ++ [(k2, [125])])) := by
  intro r
  have h := lv1_end ha ((k2, [125]) :: r) ⟨⟨⟨⟨⟨by show ([125] : Bs) ≠ [85]; decide, by show ([125] : Bs) ≠ [82]; decide⟩, by show ([125] : Bs) ≠ [38]; decide⟩, by show ([125] : Bs) ≠ [124]; decide⟩, by show ([125] : Bs) ≠ [45, 62]; decide⟩, by show ([125] : Bs) ≠ [60, 45, 62]; decide⟩
  have := Reads.step (k1 := k1) h
  simpa [List.append_assoc] using this
theorem mk_test (ha : LvF names 6 a wa) : LvP names 4 (a ++ [(⟨20, 0⟩ : Tk)]) ((k1, [63]) :: wa) := fun r => .test (ha r)
theorem mk_paren (ha : LvF names 1 a wa) : LvF names 6 a ((k1, [40]) :: (wa ++ [(k2, [41])])) := by
  intro r
  have h := lv1_end ha ((k2, [41]) :: r) ⟨⟨⟨⟨⟨by show ([41] : Bs) ≠ [85]; decide, by show ([41] : Bs) ≠ [82]; decide⟩, by show ([41] : Bs) ≠ [38]; decide⟩, by show ([41] : Bs) ≠ [124]; decide⟩, by show ([41] : Bs) ≠ [45, 62]; decide⟩, by show ([41] : Bs) ≠ [60, 45, 62]; decide⟩
  have h2 := Reads.paren (k1 := k1) h
  have h3 : Reads names .unary ((k1, [40]) :: (wa ++ (k2, [41]) :: r)) a r := .atom (by show ∀ p ∈ pres, ([40] : Bs) ≠ p.1; decide) (by show ∀ p ∈ modals, ([40] : Bs) ≠ p.1; decide) h2
  simpa [List.append_assoc] using h3
theorem mk_group (ha : LvP names 1 a wa) : LvP names 4 a ((k1, [40]) :: (wa ++ [(k2, [41])])) := by
  intro r
  have h := lp1_end ha ((k2, [41]) :: r) ⟨⟨by show ([41] : Bs) ≠ [42]; decide, by show ([41] : Bs) ≠ [59]; decide⟩, by show ([41] : Bs) ≠ [43]; decide⟩
  have := Reads.group (k1 := k1) h
  simpa [List.append_assoc] using this
theorem mk_word {s : Bs} {op : Int} (hs : (s, op) ∈ words0) : LvF names 6 [(⟨op, 0⟩ : Tk)] [(k, s)] := by
  intro r
  have hc : s = [116, 114, 117, 101] ∨ s = [102, 97, 108, 115, 101] ∨ s = [108, 97, 115, 116] := by
    unfold words0 at hs; simp at hs; rcases hs with ⟨h, _⟩ | ⟨h, _⟩ | ⟨h, _⟩ <;> simp [h]
  refine .atom ?_ ?_ (.word hs)
  · show ∀ p ∈ pres, s ≠ p.1
    rcases hc with rfl | rfl | rfl <;> decide
  · show ∀ p ∈ modals, s ≠ p.1
    rcases hc with rfl | rfl | rfl <;> decide
end
end Go.Proofs.YtaogoabnidbbpaaDoor.PText
