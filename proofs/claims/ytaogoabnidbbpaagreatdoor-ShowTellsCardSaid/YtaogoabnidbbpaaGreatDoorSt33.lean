/- Texts of this work merged into one file, what the law does not need left out: TextLaws; TextLevels. Conditions stand in each law. -/
import Derived.Test.YtaogoabnidbbpaaGreatDoorSt26
import Derived.Test.YtaogoabnidbbpaaGreatDoorSt32
namespace Go.Proofs.YtaogoabnidbbpaaGreatDoor.PText
open Go.RowKit Go.Proofs.YtaogoabnidbbpaaGreatDoorW.PrintWords Go.Proofs.YtaogoabnidbbpaaGreatDoorW.PrintLast Go.Proofs.YtaogoabnidbbpaaGreatDoorW.PrintMore
set_option linter.unusedVariables false
set_option linter.unusedSimpArgs false
/-- The operators behind an operand. -/
def opSigns : List Bs := [[60, 45, 62], [45, 62], [124], [38], [85], [82], [43], [59], [42]]
/-- No operator stands next. -/
def Shut (r : List Sy) : Prop := nextS r ∉ opSigns
section
variable {names : List ByteArray} {ws r : List Sy} {l : List Tk}
end
def LeE (a b : Option End) : Prop := ∀ e, a = some e → b = some e
theorem LeE.refl (a : Option End) : LeE a a := fun _ h => h
theorem LeE.none (a : Option End) : LeE .none a := fun _ h => by cases h
theorem LeE.then {x x' : Option End} {f f' : Rd → Option End} (h : LeE x x') (k : ∀ r, LeE (f r) (f' r)) : LeE (thenDo x f) (thenDo x' f') := by
 intro e he
 cases hx : x with
 | none => rw [hx] at he; cases he
 | some y =>
  rw [hx] at he
  rw [h y hx]
  cases y with
  | stop a b => exact he
  | go r => exact k r e he
theorem LeE.ite {c : Prop} [Decidable c] {a a' b b' : Option End} (h : LeE a a') (k : LeE b b') : LeE (if c then a else b) (if c then a' else b') := by
 split
 ·exact h
 ·exact k
theorem LeE.want {r : Rd} {last : Int} {s : Bs} {f f' : Rd → Option End} (h : ∀ r, LeE (f r) (f' r)) : LeE (r.want last s f) (r.want last s f') := by
 unfold Rd.want
 exact LeE.ite (h _) (LeE.refl _)
theorem stop_err (names : List ByteArray) (last : Int) (n : Nat) : ∀ (nt : Nt) (r : Rd) (e a : Int), run names last n nt r = some (.stop e a) → e ≠ 0 := by
 induction n with
 | zero => intro nt r e a h; rw [run] at h; cases h
 | succ n ih =>
  have t1 : ∀ (x : Nt) (q : Rd) (f : Rd → Option End) (e a : Int), (∀ q e a, f q = some (.stop e a) → e ≠ 0) → thenDo (run names last n x q) f = some (.stop e a) → e ≠ 0 := by
   intro x q f e a hf h
   cases hx : run names last n x q with
   | none => rw [hx] at h; cases h
   | some y =>
    rw [hx] at h
    cases y with
    | stop e' a' => cases h; exact ih x q _ _ hx
    | go q' => exact hf q' e a h
  have t2 : ∀ (q : Rd) (s : Bs) (f : Rd → Option End) (e a : Int), (∀ q e a, f q = some (.stop e a) → e ≠ 0) → q.want last s f = some (.stop e a) → e ≠ 0 := by
   intro q s f e a hf h
   unfold Rd.want at h
   split at h
   ·exact hf _ _ _ h
   ·cases h; decide
  have g1 : ∀ (q : Rd) (e a : Int), (some (End.go q) : Option End) = some (.stop e a) → e ≠ 0 := by intro q e a h; cases h
  intro nt r e a h
  cases nt with
  | iff => rw [run] at h; exact t1 _ _ _ _ _ (fun q e a => ih _ q e a) h
  | or => rw [run] at h; exact t1 _ _ _ _ _ (fun q e a => ih _ q e a) h
  | and => rw [run] at h; exact t1 _ _ _ _ _ (fun q e a => ih _ q e a) h
  | plus => rw [run] at h; exact t1 _ _ _ _ _ (fun q e a => ih _ q e a) h
  | seq => rw [run] at h; exact t1 _ _ _ _ _ (fun q e a => ih _ q e a) h
  | star => rw [run] at h; exact t1 _ _ _ _ _ (fun q e a => ih _ q e a) h
  | moreIff => rw [run] at h; split at h; exact t1 _ _ _ _ _ (fun q e a => ih _ _ e a) h; exact g1 _ _ _ h
  | moreOr => rw [run] at h; split at h; exact t1 _ _ _ _ _ (fun q e a => ih _ _ e a) h; exact g1 _ _ _ h
  | moreAnd => rw [run] at h; split at h; exact t1 _ _ _ _ _ (fun q e a => ih _ _ e a) h; exact g1 _ _ _ h
  | morePlus => rw [run] at h; split at h; exact t1 _ _ _ _ _ (fun q e a => ih _ _ e a) h; exact g1 _ _ _ h
  | moreSeq => rw [run] at h; split at h; exact t1 _ _ _ _ _ (fun q e a => ih _ _ e a) h; exact g1 _ _ _ h
  | stars => rw [run] at h; split at h; exact ih _ _ _ _ h; exact g1 _ _ _ h
  | imp =>
   rw [run] at h
   refine t1 _ _ _ _ _ (fun q e a h => ?_) h
   split at h
   ·exact t1 _ _ _ _ _ (fun q e a => g1 _ e a) h
   ·exact g1 _ _ _ h
  | til =>
   rw [run] at h
   refine t1 _ _ _ _ _ (fun q e a h => ?_) h
   split at h
   ·exact t1 _ _ _ _ _ (fun q e a => g1 _ e a) h
   ·split at h
    ·exact t1 _ _ _ _ _ (fun q e a => g1 _ e a) h
    ·exact g1 _ _ _ h
  | unary =>
   rw [run] at h
   split at h
   ·exact t1 _ _ _ _ _ (fun q e a => g1 _ e a) h
   split at h
   ·exact t1 _ _ _ _ _ (fun q e a => g1 _ e a) h
   split at h
   ·exact t1 _ _ _ _ _ (fun q e a => g1 _ e a) h
   split at h
   ·exact t1 _ _ _ _ _ (fun q e a => g1 _ e a) h
   split at h
   ·exact t1 _ _ _ _ _ (fun q e a => g1 _ e a) h
   split at h
   ·exact t1 _ _ _ _ _ (fun q e a h => t2 _ _ _ _ _ (fun q e a h => t1 _ _ _ _ _ (fun q e a => g1 _ e a) h) h) h
   split at h
   ·exact t1 _ _ _ _ _ (fun q e a h => t2 _ _ _ _ _ (fun q e a h => t1 _ _ _ _ _ (fun q e a => g1 _ e a) h) h) h
   exact ih _ _ _ _ h
  | atom =>
   rw [run] at h
   split at h
   ·exact g1 _ _ _ h
   split at h
   ·exact g1 _ _ _ h
   split at h
   ·exact g1 _ _ _ h
   split at h
   ·exact t1 _ _ _ _ _ (fun q e a h => t2 _ _ _ _ _ (fun q e a => g1 _ e a) h) h
   unfold Rd.name at h
   split at h
   ·cases h; decide
   ·split at h
    ·cases h; decide
    ·split at h
     ·cases h; decide
     ·exact g1 _ _ _ h
  | bare =>
   rw [run] at h
   split at h
   ·exact t1 _ _ _ _ _ (fun q e a h => t2 _ _ _ _ _ (fun q e a => g1 _ e a) h) h
   split at h
   ·exact t1 _ _ _ _ _ (fun q e a => g1 _ e a) h
   split at h
   ·exact t1 _ _ _ _ _ (fun q e a h => t2 _ _ _ _ _ (fun q e a => g1 _ e a) h) h
   cases h; decide
/-- What follows holds no sign that binds tighter than level m: of a formula. -/
def Aft : Nat → List Sy → Prop
 | 6, _ => True
 | 5, r => nextS r ≠ [85] ∧ nextS r ≠ [82]
 | 4, r => (nextS r ≠ [85] ∧ nextS r ≠ [82]) ∧ nextS r ≠ [38]
 | 3, r => ((nextS r ≠ [85] ∧ nextS r ≠ [82]) ∧ nextS r ≠ [38]) ∧ nextS r ≠ [124]
 | 2, r => (((nextS r ≠ [85] ∧ nextS r ≠ [82]) ∧ nextS r ≠ [38]) ∧ nextS r ≠ [124]) ∧ nextS r ≠ [45, 62]
 | _, r => ((((nextS r ≠ [85] ∧ nextS r ≠ [82]) ∧ nextS r ≠ [38]) ∧ nextS r ≠ [124]) ∧ nextS r ≠ [45, 62]) ∧ nextS r ≠ [60, 45, 62]
/-- What follows holds no sign that binds tighter: of a path. -/
def AftP : Nat → List Sy → Prop
 | 4, _ => True
 | 3, r => nextS r ≠ [42]
 | 2, r => nextS r ≠ [42] ∧ nextS r ≠ [59]
 | _, r => (nextS r ≠ [42] ∧ nextS r ≠ [59]) ∧ nextS r ≠ [43]
/-- A formula's words, read at a level; where the level goes on in rounds, with whatever rounds follow. -/
def LvF (names : List ByteArray) : Nat → List Tk → List Sy → Prop
 | 6, b, ws => ∀ r, Reads names .unary (ws ++ r) b r
 | 5, b, ws => ∀ r, Aft 5 r → Reads names .til (ws ++ r) b r
 | 4, b, ws => ∀ r l2 ws2, Aft 5 r → Reads names .moreAnd r l2 ws2 → Reads names .and (ws ++ r) (b ++ l2) ws2
 | 3, b, ws => ∀ r l2 ws2, Aft 4 r → Reads names .moreOr r l2 ws2 → Reads names .or (ws ++ r) (b ++ l2) ws2
 | 2, b, ws => ∀ r, Aft 2 r → Reads names .imp (ws ++ r) b r
 | _, b, ws => ∀ r l2 ws2, Aft 2 r → Reads names .moreIff r l2 ws2 → Reads names .iff (ws ++ r) (b ++ l2) ws2
def LvP (names : List ByteArray) : Nat → List Tk → List Sy → Prop
 | 4, b, ws => ∀ r, Reads names .bare (ws ++ r) b r
 | 3, b, ws => ∀ r l2 ws2, Reads names .stars r l2 ws2 → Reads names .star (ws ++ r) (b ++ l2) ws2
 | 2, b, ws => ∀ r l2 ws2, AftP 3 r → Reads names .moreSeq r l2 ws2 → Reads names .seq (ws ++ r) (b ++ l2) ws2
 | _, b, ws => ∀ r l2 ws2, AftP 2 r → Reads names .morePlus r l2 ws2 → Reads names .plus (ws ++ r) (b ++ l2) ws2
section
variable {names : List ByteArray} {b : List Tk} {ws : List Sy}
end
/-- A part of strength n is read at each level from n down. -/
def GoodF (names : List ByteArray) (n : Int) (b : List Tk) (ws : List Sy) : Prop := ∀ m : Nat, 1 ≤ m → m ≤ 6 → (m : Int) ≤ n → LvF names m b ws
def GoodP (names : List ByteArray) (n : Int) (b : List Tk) (ws : List Sy) : Prop := ∀ m : Nat, 1 ≤ m → m ≤ 4 → (m : Int) ≤ n → LvP names m b ws
section
variable {names : List ByteArray} {a b : List Tk} {wa wb : List Sy} {k k1 k2 : Int}
end
end Go.Proofs.YtaogoabnidbbpaaGreatDoor.PText
