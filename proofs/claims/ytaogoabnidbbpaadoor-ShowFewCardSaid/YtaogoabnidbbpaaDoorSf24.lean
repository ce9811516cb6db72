/- Texts of this work merged into one file, what the law does not need left out: TextBacks2; TextBack; TextFew; TextFew2; TextShows. Conditions stand in each law. -/
import Derived.Below
import Derived.Deep.Draws
import Derived.Deep.AppendLies
import Derived.Maps.AppendAt
import Derived.OwnWalk
import Derived.Laws.BytesArg
import Derived.Laws.MakeOwn
import Derived.Laws.OwnMore
import Derived.Deep.OwnRows
import Derived.Tactics
import Derived.Lib.ConvBytes
import Derived.Laws.Slices
import Derived.WalkKit
import Derived.KernelRfl
import Derived.RowKit3
import Derived.Deep.LoopGhost
import Derived.Deep.QuietTactic
import Derived.BigQuiet
import Derived.WideLaws
import Derived.Deep.DeepCutAuto
import Derived.Deep.CutBlock
import Derived.Deep.RegionHeld3
import Derived.Laws.Rows
import Derived.Lib.AppendStr
import Derived.ArgAppend
import Derived.Laws.IdiomCopy
import Derived.RowKit
import Derived.OrdersHeld
import Derived.Laws.BitsLemmas
import Derived.Laws.StructEq
import Derived.Test.YtaogoabnidbbpaaDoorProg
import Derived.Shelf.Strings.Builder1
import Derived.Shelf.Strings.BuilderF
import Derived.Shelf.Strings.BuilderK
import Derived.Shelf.Strings.Fields
import Derived.Lib.SmallJoins
import Derived.BigCall
import Derived.WalkMore
import Derived.Lib.OthersKept
import Derived.Lib.FrozenHead
import Derived.WalkSmall
import Derived.Maps.OwnOps
import Derived.Maps.Views
import Derived.Laws.Tables
import Derived.Deep.WholeRow
import Derived.Test.YtaogoabnidbbpaaDoorSf1
import Derived.Test.YtaogoabnidbbpaaDoorSf2
import Derived.Test.YtaogoabnidbbpaaDoorSf3
import Derived.Test.YtaogoabnidbbpaaDoorSf4
import Derived.Test.YtaogoabnidbbpaaDoorSf5
import Derived.Test.YtaogoabnidbbpaaDoorSf6
import Derived.Test.YtaogoabnidbbpaaDoorSf7
import Derived.Test.YtaogoabnidbbpaaDoorSf8
import Derived.Test.YtaogoabnidbbpaaDoorSf9
import Derived.Test.YtaogoabnidbbpaaDoorSf10
import Derived.Test.YtaogoabnidbbpaaDoorSf11
import Derived.Test.YtaogoabnidbbpaaDoorSf12
import Derived.Test.YtaogoabnidbbpaaDoorSf13
import Derived.Test.YtaogoabnidbbpaaDoorSf14
import Derived.Test.YtaogoabnidbbpaaDoorSf15
import Derived.Test.YtaogoabnidbbpaaDoorSf16
import Derived.Test.YtaogoabnidbbpaaDoorSf17
import Derived.Test.YtaogoabnidbbpaaDoorSf18
import Derived.Test.YtaogoabnidbbpaaDoorSf19
import Derived.Test.YtaogoabnidbbpaaDoorSf20
import Derived.Test.YtaogoabnidbbpaaDoorSf21
import Derived.Test.YtaogoabnidbbpaaDoorSf22
import Derived.Test.YtaogoabnidbbpaaDoorSf23
/-! TextBacks2 -/
namespace Go.Proofs.YtaogoabnidbbpaaDoor.PText
open Go.RowKit Go.Proofs.YtaogoabnidbbpaaDoorW.PrintWords Go.Proofs.YtaogoabnidbbpaaDoorW.PrintLast Go.Proofs.YtaogoabnidbbpaaDoorW.PrintMore
set_option linter.unusedVariables false
theorem back_word {s : Bs} (h : nameL s = true) : s.all wordB = true ∧ s ≠ [] := by
  unfold nameL at h
  simp only [Bool.and_eq_true, decide_eq_true_eq] at h
  refine ⟨?_, by rintro rfl; simp at h⟩
  cases s with
  | nil => rfl
  | cons c t =>
    have h2 := h.2
    simp only [Bool.and_eq_true] at h2
    rw [List.all_cons, Bool.and_eq_true]
    refine ⟨by unfold wordB; rw [h2.1]; rfl, ?_⟩
    rw [List.all_eq_true] at h2 ⊢
    intro x hx
    have := h2.2 x hx
    unfold wordB
    simp only [Bool.or_eq_true] at this ⊢
    rcases this with h | h
    · exact .inl (.inl h)
    · exact .inr h
theorem chk_from (l : List ByteArray) : ∀ seen, chkFrom seen l = 0 → ∀ j (hj : j < l.length), nameL l[j].data.toList = true ∧ l[j].data.toList ∉ seen ∧ ∀ i (hi : i < j), l[i].data.toList ≠ l[j].data.toList := by
  induction l with
  | nil => intro seen _ j hj; cases hj
  | cons s t ih =>
    intro seen h j hj
    rw [chk_cons] at h
    by_cases hn : nameL s.data.toList = false
    · rw [if_pos hn] at h; exact absurd h (by decide)
    · rw [if_neg hn] at h
      by_cases hs : s.data.toList ∈ seen
      · rw [if_pos hs] at h; exact absurd h (by decide)
      · rw [if_neg hs] at h
        cases j with
        | zero => exact ⟨by simpa using hn, hs, fun i hi => by cases hi⟩
        | succ j =>
          obtain ⟨h1, h2, h3⟩ := ih _ h j (by simpa using hj)
          simp only [List.getElem_cons_succ]
          refine ⟨h1, fun hm => h2 (List.mem_append_left _ hm), fun i hi => ?_⟩
          cases i with
          | zero => exact fun e => h2 (List.mem_append_right _ (by simp only [List.getElem_cons_zero] at e; rw [e]; exact List.mem_cons_self))
          | succ i => simp only [List.getElem_cons_succ]; exact h3 i (by omega)
theorem chk_name {names : List ByteArray} (h : chk names = 0) (i : Nat) (hi : i < names.length) : nameL names[i].data.toList = true ∧ placeOf names names[i].data.toList = some i := by
  unfold chk at h
  split at h
  · exact absurd h (by decide)
  · obtain ⟨h1, -, h3⟩ := chk_from names [] h i hi
    refine ⟨h1, ?_⟩
    unfold placeOf
    rw [List.findIdx?_eq_some_iff_getElem]
    exact ⟨hi, by simp, fun j hj => by simpa using h3 j hj⟩
/-- Blocks of tokens, their parts, their texts (the top first). -/
inductive Stk (names : List ByteArray) : List Tk → List Trm.Pt → List S117 → Prop
  | nil : Stk names [] [] []
  | cons {ts b : List Tk} {st : List Trm.Pt} {sk : List S117} {p : Trm.Pt} {x : S117} : Stk names ts st sk → (p.f0 = false → PartF names b x) → (p.f0 = true → PartP names b x) → Stk names (ts ++ b) (st ++ [p]) (x :: sk)
theorem Stk.inv {names : List ByteArray} {ts : List Tk} {st : List Trm.Pt} {sk : List S117} (h : Stk names ts st sk) (hl : 1 ≤ st.length) :
    ∃ ts' b st' sk' p x, ts = ts' ++ b ∧ st = st' ++ [p] ∧ sk = x :: sk' ∧ Stk names ts' st' sk' ∧ (p.f0 = false → PartF names b x) ∧ (p.f0 = true → PartP names b x) := by
  cases h with
  | nil => exact absurd hl (by decide)
  | cons h1 h2 h3 => exact ⟨_, _, _, _, _, _, rfl, rfl, rfl, h1, h2, h3⟩
theorem Stk.two {names : List ByteArray} {ts : List Tk} {st : List Trm.Pt} {sk : List S117} (h : Stk names ts st sk) (hl : 2 ≤ st.length) :
    ∃ ts' a b st' sk' p1 p2 y x, ts = ts' ++ a ++ b ∧ st = st' ++ [p1] ++ [p2] ∧ sk = x :: y :: sk' ∧ Stk names ts' st' sk' ∧ (p1.f0 = false → PartF names a y) ∧ (p1.f0 = true → PartP names a y) ∧ (p2.f0 = false → PartF names b x) ∧ (p2.f0 = true → PartP names b x) := by
  obtain ⟨ts1, b, st1, sk1, p2, x, rfl, rfl, rfl, h1, h2, h3⟩ := h.inv (by omega)
  obtain ⟨ts2, a, st2, sk2, p1, y, rfl, rfl, rfl, h4, h5, h6⟩ := h1.inv (by rw [List.length_append] at hl; simp at hl; omega)
  exact ⟨ts2, a, b, st2, sk2, p1, p2, y, x, rfl, rfl, rfl, h4, h5, h6, h2, h3⟩
theorem Stk.put {names : List ByteArray} {ts B : List Tk} {st : List Trm.Pt} {sk : List S117} {p : Trm.Pt} {x : S117} (h : Stk names ts st sk) (hF : p.f0 = false → PartF names B x) (hP : p.f0 = true → PartP names B x) : Stk names (ts ++ B) (st ++ [p]) (x :: sk) := .cons h hF hP
end Go.Proofs.YtaogoabnidbbpaaDoor.PText
/-! TextBack -/
namespace Go.Proofs.YtaogoabnidbbpaaDoor.PText
open Go.RowKit Go.Proofs.YtaogoabnidbbpaaDoorW.PrintWords Go.Proofs.YtaogoabnidbbpaaDoorW.PrintLast Go.Proofs.YtaogoabnidbbpaaDoorW.PrintMore
set_option linter.unusedVariables false
theorem step_long {names : List ByteArray} {st : List S117} {t : Tk} {q : List S117 × Bool} (h : stepS names st true t = some q) : q.2 = true := by
  have fin : ∀ {s : List S117} {a : ByteArray} {k : Int}, some (putS s true a k) = some q → q.2 = true := by
    intro s a k h3
    cases h3
    show (if a.size > 4096 then true else true) = true
    split <;> rfl
  unfold stepS at h
  repeat' split at h
  all_goals first | exact fin h | cases h
theorem run_long {names : List ByteArray} (l : List Tk) : ∀ (st : List S117) (s : List S117), runS names st true l ≠ some (s, false) := by
  induction l with
  | nil => intro st s h; rw [runS] at h; cases h
  | cons t l ih =>
    intro st s h
    rw [runS] at h
    cases hs : stepS names st true t with
    | none => rw [hs] at h; cases h
    | some q =>
      rw [hs] at h
      have := step_long hs
      obtain ⟨q1, q2⟩ := q
      obtain rfl : q2 = true := this
      exact ih _ _ h
theorem run_small {names : List ByteArray} (l : List Tk) : ∀ (st : List S117) (lg : Bool) (q : List S117 × Bool), SmallS st → runS names st lg l = some q → SmallS q.1 := by
  induction l with
  | nil => intro st lg q h hr; rw [runS] at hr; cases hr; exact h
  | cons t l ih =>
    intro st lg q h hr
    rw [runS] at hr
    cases hs : stepS names st lg t with
    | none => rw [hs] at hr; cases hr
    | some z => rw [hs] at hr; exact ih _ _ _ (step_fits hs h).1 hr
end Go.Proofs.YtaogoabnidbbpaaDoor.PText
/-! TextFew -/
namespace Go.Proofs.YtaogoabnidbbpaaDoor.PText
open Go.RowKit Go.Proofs.YtaogoabnidbbpaaDoorW.PrintWords Go.Proofs.YtaogoabnidbbpaaDoorW.PrintLast Go.Proofs.YtaogoabnidbbpaaDoorW.PrintMore
set_option linter.unusedVariables false
/-- The brackets that a part's text holds, and how strong it is. -/
abbrev Cn := Nat × Int
def wn (x : Cn) (n : Int) : Nat := x.1 + if x.2 < n then 1 else 0
/-- What one token does to the counts (the top first). -/
def stepC (st : List Cn) (t : Tk) : Option (List Cn) :=
  if t.f0 = 2 then some ((0, 7) :: st)
  else if leafO t.f0 then some ((0, 7) :: st)
  else if unO t.f0 then (match st with | x :: s => some ((wn x 6, if t.f0 = 20 then 4 else 6) :: s) | [] => none)
  else if t.f0 = 19 then (match st with | x :: s => some ((x.1, 4) :: s) | [] => none)
  else if t.f0 = 23 then (match st with | x :: s => some ((wn x 3, 3) :: s) | [] => none)
  else if t.f0 = 17 then (match st with | x :: y :: s => some ((y.1 + wn x 6, 6) :: s) | _ => none)
  else if t.f0 = 18 then (match st with | x :: y :: s => some ((y.1 + wn x 6, 6) :: s) | _ => none)
  else if binO t.f0 then (match st with | x :: y :: s => some ((wn y (lookAt t.f0).left + wn x (lookAt t.f0).right, (lookAt t.f0).strong) :: s) | _ => none)
  else none
def runC : List Cn → List Tk → Option (List Cn)
  | st, [] => some st
  | st, t :: ts => (stepC st t).bind fun q => runC q ts
theorem runC_app (a b : List Tk) : ∀ st, runC st (a ++ b) = (runC st a).bind fun q => runC q b := by
  induction a with
  | nil => intro st; rfl
  | cons t a ih =>
    intro st
    rw [List.cons_append, runC, runC]
    cases stepC st t with
    | none => rfl
    | some q => exact ih q
/-- How many opening brackets words hold. -/
def opens (ws : List Sy) : Nat := ws.countP fun w => w.2 == [40]
theorem opens_cons (k : Int) (s : Bs) (ws : List Sy) : opens ((k, s) :: ws) = opens ws + if s = [40] then 1 else 0 := by
  unfold opens
  rw [List.countP_cons]
  by_cases h : s = [40]
  · simp [h]
  · simp [h]
def level : Nt → Int
  | .iff => 1 | .imp => 2 | .or => 3 | .and => 4 | .til => 5 | .unary => 6 | .atom => 7
  | .plus => 1 | .seq => 2 | .star => 3 | .bare => 4
  | .moreIff => 1 | .moreOr => 3 | .moreAnd => 4 | .morePlus => 1 | .moreSeq => 2 | .stars => 3
def loops : Nt → Bool
  | .moreIff | .moreOr | .moreAnd | .morePlus | .moreSeq | .stars => true
  | _ => false
theorem wn_mono (c : Cn) {m n : Int} (h : m ≤ n) : wn c m ≤ wn c n := by
  unfold wn
  split <;> split <;> omega
theorem wn_le (c : Cn) (n : Int) : wn c n ≤ c.1 + 1 := by unfold wn; split <;> omega
theorem wn_ge (c : Cn) (n : Int) : c.1 ≤ wn c n := by unfold wn; omega
theorem wn_same (a : Nat) (n : Int) : wn (a, n) n = a := by unfold wn; rw [if_neg (by omega)]; rfl
/-- A part was read: what it costs in brackets was paid. -/
def PaidW (n : Int) (ws : List Sy) (l : List Tk) (ws1 : List Sy) : Prop := ∃ c : Cn, (∀ st, runC st l = some (c :: st)) ∧ wn c n + opens ws1 ≤ opens ws
/-- Rounds behind a part were read: likewise. -/
def PaidM (n : Int) (ws : List Sy) (l : List Tk) (ws1 : List Sy) : Prop := ∀ c0 : Cn, ∃ c : Cn, (∀ st, runC (c0 :: st) l = some (c :: st)) ∧ wn c n + opens ws1 ≤ wn c0 n + opens ws
def Paid (nt : Nt) (ws : List Sy) (l : List Tk) (ws1 : List Sy) : Prop :=
  match loops nt with
  | true => PaidM (level nt) ws l ws1
  | false => PaidW (level nt) ws l ws1
theorem runC_one {st : List Cn} {t : Tk} {q : List Cn} (h : stepC st t = some q) : runC st [t] = some q := by
  rw [runC, h]; rfl
theorem runC_then {a b : List Tk} {st q : List Cn} (h : runC st a = some q) : runC st (a ++ b) = runC q b := by
  rw [runC_app, h]; rfl
theorem opens_le (k : Int) (s : Bs) (ws : List Sy) : opens ws ≤ opens ((k, s) :: ws) := by
  rw [opens_cons]; omega
theorem opens_yes (k : Int) (ws : List Sy) : opens ((k, [40]) :: ws) = opens ws + 1 := by
  rw [opens_cons, if_pos rfl]
section
variable {ws ws1 ws2 : List Sy} {l l1 l2 : List Tk} {n m : Int}
theorem paid_left (h1 : PaidW m ws l1 ws1) (h2 : PaidM n ws1 l2 ws2) (hn : n ≤ m) : PaidW n ws (l1 ++ l2) ws2 := by
  obtain ⟨c0, r0, p0⟩ := h1
  obtain ⟨c, r, p⟩ := h2 c0
  refine ⟨c, fun st => by rw [runC_then (r0 st), r], ?_⟩
  have := wn_mono c0 hn
  omega
theorem paid_more {k op : Int} {s : Bs} (h1 : PaidW m ws l1 ws1) (h2 : PaidM n ws1 l2 ws2) (hop : ∀ x y st, stepC (x :: y :: st) ⟨op, 0⟩ = some ((wn y n + wn x m, n) :: st)) : PaidM n ((k, s) :: ws) (l1 ++ [(⟨op, 0⟩ : Tk)] ++ l2) ws2 := by
  intro c0
  obtain ⟨c1, r1, p1⟩ := h1
  obtain ⟨c, r, p⟩ := h2 (wn c0 n + wn c1 m, n)
  refine ⟨c, fun st => ?_, ?_⟩
  · rw [List.append_assoc, runC_then (r1 _), runC_then (runC_one (hop c1 c0 st)), r]
  · rw [wn_same] at p
    have := opens_le k s ws
    omega
theorem paid_none : PaidM n ws [] ws := fun c0 => ⟨c0, fun st => rfl, Nat.le_refl _⟩
theorem paid_star {k : Int} {s : Bs} (h : PaidM 3 ws l ws1) : PaidM 3 ((k, s) :: ws) ([(⟨23, 0⟩ : Tk)] ++ l) ws1 := by
  intro c0
  obtain ⟨c, r, p⟩ := h (wn c0 3, 3)
  refine ⟨c, fun st => ?_, ?_⟩
  · rw [runC_then (runC_one (show stepC (c0 :: st) ⟨23, 0⟩ = some ((wn c0 3, 3) :: st) from rfl)), r]
  · rw [wn_same] at p
    have := opens_le k s ws
    omega
theorem paid_low (h : PaidW m ws l ws1) (hn : n ≤ m) : PaidW n ws l ws1 := by
  obtain ⟨c, r, p⟩ := h
  exact ⟨c, r, by have := wn_mono c hn; omega⟩
theorem paid_right {k op a b : Int} {s : Bs} (h1 : PaidW a ws l1 ((k, s) :: ws1)) (h2 : PaidW b ws1 l2 ws2) (hop : ∀ x y st, stepC (x :: y :: st) ⟨op, 0⟩ = some ((wn y a + wn x b, n) :: st)) : PaidW n ws (l1 ++ l2 ++ [(⟨op, 0⟩ : Tk)]) ws2 := by
  obtain ⟨c1, r1, p1⟩ := h1
  obtain ⟨c2, r2, p2⟩ := h2
  refine ⟨(wn c1 a + wn c2 b, n), fun st => ?_, ?_⟩
  · rw [List.append_assoc, runC_then (r1 _), runC_then (r2 _), runC_one (hop c2 c1 st)]
  · rw [wn_same]
    have := opens_le k s ws1
    omega
theorem paid_pre {k op a : Int} {s : Bs} (h1 : PaidW a ws l ws1) (hop : ∀ x st, stepC (x :: st) ⟨op, 0⟩ = some ((wn x a, n) :: st)) : PaidW n ((k, s) :: ws) (l ++ [(⟨op, 0⟩ : Tk)]) ws1 := by
  obtain ⟨c1, r1, p1⟩ := h1
  refine ⟨(wn c1 a, n), fun st => ?_, ?_⟩
  · rw [runC_then (r1 _), runC_one (hop c1 st)]
  · rw [wn_same]
    have := opens_le k s ws
    omega
theorem paid_modal {k1 k2 op : Int} {o s : Bs} (h1 : PaidW 1 ws l1 ((k2, s) :: ws1)) (h2 : PaidW 6 ws1 l2 ws2) (hop : ∀ x y st, stepC (x :: y :: st) ⟨op, 0⟩ = some ((y.1 + wn x 6, 6) :: st)) : PaidW 6 ((k1, o) :: ws) (l1 ++ l2 ++ [(⟨op, 0⟩ : Tk)]) ws2 := by
  obtain ⟨c1, r1, p1⟩ := h1
  obtain ⟨c2, r2, p2⟩ := h2
  refine ⟨(c1.1 + wn c2 6, 6), fun st => ?_, ?_⟩
  · rw [List.append_assoc, runC_then (r1 _), runC_then (r2 _), runC_one (hop c2 c1 st)]
  · rw [wn_same]
    have := opens_le k2 s ws1
    have := opens_le k1 o ws
    have := wn_ge c1 1
    omega
theorem paid_paren {k1 k2 : Int} {s : Bs} (h : PaidW 1 ws l ((k2, s) :: ws1)) : PaidW n ((k1, [40]) :: ws) l ws1 := by
  obtain ⟨c, r, p⟩ := h
  refine ⟨c, r, ?_⟩
  have := opens_le k2 s ws1
  have := wn_ge c 1
  have := wn_le c n
  rw [opens_yes]
  omega
theorem paid_step {k1 k2 : Int} {o s : Bs} (h : PaidW 1 ws l ((k2, s) :: ws1)) : PaidW 4 ((k1, o) :: ws) (l ++ [(⟨19, 0⟩ : Tk)]) ws1 := by
  obtain ⟨c, r, p⟩ := h
  refine ⟨(c.1, 4), fun st => ?_, ?_⟩
  · rw [runC_then (r _), runC_one (show stepC (c :: st) ⟨19, 0⟩ = some ((c.1, 4) :: st) from rfl)]
  · rw [wn_same]
    have := opens_le k2 s ws1
    have := opens_le k1 o ws
    have := wn_ge c 1
    omega
theorem paid_leaf {k : Int} {s : Bs} {t : Tk} (h : ∀ st, stepC st t = some ((0, 7) :: st)) : PaidW 7 ((k, s) :: ws) [t] ws :=
  ⟨(0, 7), fun st => runC_one (h st), by have := opens_le k s ws; rw [wn_same]; omega⟩
end
/-- Whatever words are read as tokens: they hold as many opening brackets as what is shown of these needs. -/
theorem paid {names : List ByteArray} {nt : Nt} {ws ws1 : List Sy} {l : List Tk} (h : Reads names nt ws l ws1) : Paid nt ws l ws1 := by
  induction h with
  | @left nt b m ws ws1 ws2 l1 l2 hl h1 h2 ih1 ih2 =>
    cases nt <;> simp only [lefty, Option.some.injEq, Prod.mk.injEq, reduceCtorEq] at hl
    all_goals
      obtain ⟨rfl, rfl⟩ := hl
      exact paid_left ih1 ih2 (by decide)
  | @more nt b s op k ws ws1 ws2 l1 l2 hm h1 h2 ih1 ih2 =>
    cases nt <;> simp only [morely, Option.some.injEq, Prod.mk.injEq, reduceCtorEq] at hm
    all_goals
      obtain ⟨rfl, rfl, rfl⟩ := hm
      exact paid_more ih1 ih2 (fun x y st => rfl)
  | @rest nt b s op ws hm hn =>
    cases nt <;> simp only [morely, Option.some.injEq, Prod.mk.injEq, reduceCtorEq] at hm
    all_goals exact paid_none
  | star h ih => exact paid_star ih
  | unstar hn => exact paid_none
  | @one nt b ws ws1 l hb h hn ih =>
    cases nt <;> simp only [rightb, Option.some.injEq, reduceCtorEq] at hb
    all_goals
      subst hb
      exact paid_low ih (by decide)
  | @right nt b s op k ws ws1 ws2 l1 l2 hb hr h1 h2 ih1 ih2 =>
    cases nt <;> simp only [rightb, Option.some.injEq, reduceCtorEq] at hb
    all_goals subst hb
    · rw [righty_imp] at hr
      split at hr
      · obtain rfl := Option.some.inj hr
        exact paid_right ih1 ih2 (fun x y st => rfl)
      · cases hr
    · rw [righty_til] at hr
      split at hr
      · obtain rfl := Option.some.inj hr
        exact paid_right ih1 ih2 (fun x y st => rfl)
      · split at hr
        · obtain rfl := Option.some.inj hr
          exact paid_right ih1 ih2 (fun x y st => rfl)
        · cases hr
  | @pre s op k ws ws1 l hp h ih =>
    simp only [pres, List.mem_cons, List.not_mem_nil, or_false, Prod.mk.injEq] at hp
    rcases hp with ⟨rfl, rfl⟩ | ⟨rfl, rfl⟩ | ⟨rfl, rfl⟩ | ⟨rfl, rfl⟩ | ⟨rfl, rfl⟩
    all_goals exact paid_pre (a := 6) ih (fun x st => rfl)
  | @modal o s op k1 k2 ws ws1 ws2 l1 l2 hp h1 h2 ih1 ih2 =>
    simp only [modals, List.mem_cons, List.not_mem_nil, or_false, Prod.mk.injEq] at hp
    rcases hp with ⟨rfl, rfl, rfl⟩ | ⟨rfl, rfl, rfl⟩
    all_goals exact paid_modal ih1 ih2 (fun x y st => rfl)
  | atom hp hm h ih => exact paid_low (n := 6) (m := 7) ih (by decide)
  | @word s op k ws hw =>
    simp only [words0, List.mem_cons, List.not_mem_nil, or_false, Prod.mk.injEq] at hw
    rcases hw with ⟨rfl, rfl⟩ | ⟨rfl, rfl⟩ | ⟨rfl, rfl⟩
    all_goals exact paid_leaf (fun st => rfl)
  | paren h ih => exact paid_paren ih
  | name h1 h2 h3 h4 => exact paid_leaf (fun st => rfl)
  | step h ih => exact paid_step ih
  | test h ih => exact paid_pre (a := 6) ih (fun x st => rfl)
  | group h ih => exact paid_paren ih
/-- A text's opening brackets. -/
def cnt (s : Bs) : Nat := s.count 40
theorem cnt_app (a b : Bs) : cnt (a ++ b) = cnt a + cnt b := List.count_append
theorem cnt_drop (s : Bs) (n : Nat) : cnt s = cnt (s.take n) + cnt (s.drop n) := by rw [← cnt_app, List.take_append_drop]
/-- The words of a text hold no more of them than the text. -/
theorem lex_opens {s : Bs} {ws : List Sy} (h : LexR s ws) : opens ws ≤ cnt s := by
  induction h with
  | nil => exact Nat.le_refl _
  | @blank t ws h ih => exact Nat.le_trans ih (by rw [show (32 :: t : Bs) = [32] ++ t from rfl, cnt_app]; omega)
  | @word c t ws hc hne h ih =>
    rw [opens_cons, cnt_drop (c :: t) (firstL (c :: t)).length]
    have h1 : (c :: t).take (firstL (c :: t)).length = firstL (c :: t) := List.prefix_iff_eq_take.1 (first_pre (c :: t)) |>.symm
    rw [h1]
    split
    · rename_i he
      rw [he] at ih ⊢
      have : cnt [40] = 1 := rfl
      omega
    · omega
end Go.Proofs.YtaogoabnidbbpaaDoor.PText
/-! TextFew2 -/
namespace Go.Proofs.YtaogoabnidbbpaaDoor.PText
open Go.RowKit Go.Proofs.YtaogoabnidbbpaaDoorW.PrintWords Go.Proofs.YtaogoabnidbbpaaDoorW.PrintLast Go.Proofs.YtaogoabnidbbpaaDoorW.PrintMore
set_option linter.unusedVariables false
def EndOk (s : Bs) : Prop := ∃ a c, s = a ++ [c] ∧ c ≠ 40
theorem end_app {a b : Bs} (h : EndOk b) : EndOk (a ++ b) := by
  obtain ⟨x, c, rfl, hc⟩ := h
  exact ⟨a ++ x, c, by rw [List.append_assoc], hc⟩
def FitC (x : S117) (c : Cn) : Prop := cnt x.f0.data.toList = c.1 ∧ x.f1 = c.2 ∧ EndOk x.f0.data.toList
inductive FitsC : List S117 → List Cn → Prop
  | nil : FitsC [] []
  | cons {x : S117} {c : Cn} {st : List S117} {cs : List Cn} : FitC x c → FitsC st cs → FitsC (x :: st) (c :: cs)
theorem within_cnt {x : S117} {c : Cn} (h : FitC x c) (n : Int) : cnt (withinP x n).data.toList = wn c n ∧ EndOk (withinP x n).data.toList := by
  obtain ⟨h1, h2, h3⟩ := h
  unfold withinP wn
  rw [← h2]
  by_cases c1 : x.f1 < n
  · rw [if_pos c1, if_pos c1, bs_app, bs_app, cnt_app, cnt_app, h1]
    have e1 : cnt (⟨#[40]⟩ : ByteArray).data.toList = 1 := rfl
    have e2 : cnt (⟨#[41]⟩ : ByteArray).data.toList = 0 := rfl
    exact ⟨by omega, end_app ⟨[], 41, rfl, by decide⟩⟩
  · rw [if_neg c1, if_neg c1]
    exact ⟨by omega, h3⟩
theorem put_fit {s : List S117} {a : ByteArray} {k : Int} {q : List S117} {n : Nat} {ds : List Cn} (h : some (putS s false a k) = some (q, false)) (hc : cnt a.data.toList = n) (he : EndOk a.data.toList) (hf : FitsC s ds) : FitsC q ((n, k) :: ds) := by
  unfold putS at h
  have h1 := Option.some.inj h
  have h2 := congrArg Prod.fst h1
  have h3 := congrArg Prod.snd h1
  simp only at h2 h3
  by_cases c : a.size > 4096
  · rw [if_pos c] at h3; cases h3
  · rw [if_neg c] at h2
    subst h2
    exact .cons ⟨hc, rfl, he⟩ hf
theorem name_cnt {names : List ByteArray} (hc : chk names = 0) {i : Nat} (hi : i < names.length) : cnt (names.getD i ⟨#[]⟩).data.toList = 0 ∧ EndOk (names.getD i ⟨#[]⟩).data.toList := by
  obtain ⟨hn, -⟩ := chk_name hc i hi
  have e : names.getD i ⟨#[]⟩ = names[i] := by simp [List.getD, List.getElem?_eq_getElem hi]
  rw [e]
  obtain ⟨ha, hne⟩ := back_word hn
  have h40 : (40 : UInt8) ∉ names[i].data.toList := fun hm => by
    have := List.all_eq_true.1 ha 40 hm
    exact absurd this (by decide)
  refine ⟨List.count_eq_zero.2 h40, ?_⟩
  refine ⟨names[i].data.toList.dropLast, names[i].data.toList.getLast hne, (List.dropLast_concat_getLast hne).symm, fun h => h40 (h ▸ List.getLast_mem hne)⟩
theorem step_cnt {names : List ByteArray} (hc : chk names = 0) {st : List S117} {cs : List Cn} {t : Tk} {q : List S117} (hs : stepS names st false t = some (q, false)) (h : FitsC st cs) (h0 : t.f0 = 2 → 0 ≤ t.f1 ∧ t.f1 < names.length) : ∃ ds, stepC cs t = some ds ∧ FitsC q ds := by
  obtain ⟨o, p⟩ := t
  unfold stepS at hs
  unfold stepC
  simp only at hs h0 ⊢
  by_cases c2 : o = 2
  · rw [if_pos c2] at hs ⊢
    obtain ⟨hp0, hp1⟩ := h0 c2
    obtain ⟨h1, h2⟩ := name_cnt hc (i := p.toNat) (by omega)
    exact ⟨_, rfl, put_fit hs h1 h2 h⟩
  rw [if_neg c2] at hs ⊢
  by_cases c_leaf : leafO o = true
  · rw [if_pos c_leaf] at hs ⊢
    have hor : o = 0 ∨ o = 1 ∨ o = 3 := by unfold leafO at c_leaf; simp only [Bool.or_eq_true, beq_iff_eq] at c_leaf; omega
    refine ⟨_, rfl, ?_⟩
    rcases hor with rfl | rfl | rfl
    · exact put_fit (k := 7) hs rfl ⟨[116, 114, 117], 101, rfl, by decide⟩ h
    · exact put_fit (k := 7) hs rfl ⟨[102, 97, 108, 115], 101, rfl, by decide⟩ h
    · exact put_fit (k := 7) hs rfl ⟨[108, 97, 115], 116, rfl, by decide⟩ h
  rw [if_neg c_leaf] at hs ⊢
  by_cases c_un : unO o = true
  · rw [if_pos c_un] at hs ⊢
    have hor : o = 6 ∨ o = 7 ∨ o = 8 ∨ o = 9 ∨ o = 10 ∨ o = 20 := by unfold unO at c_un; simp only [Bool.or_eq_true, beq_iff_eq] at c_un; omega
    cases h with
    | nil => cases hs
    | @cons x c s ds hx hd =>
      refine ⟨_, rfl, ?_⟩
      have go : ∀ (a : ByteArray) (k : Int), cnt a.data.toList = 0 → some (putS s false (a ++ withinP x 6) k) = some (q, false) → FitsC q ((wn c 6, k) :: ds) := by
        intro a k ha hp
        obtain ⟨e1, e2⟩ := within_cnt hx 6
        exact put_fit hp (by rw [bs_app, cnt_app, ha, e1, Nat.zero_add]) (by rw [bs_app]; exact end_app e2) hd
      rcases hor with rfl | rfl | rfl | rfl | rfl | rfl
      all_goals exact go _ _ rfl hs
  rw [if_neg c_un] at hs ⊢
  by_cases c_b : o = 19
  · rw [if_pos c_b] at hs ⊢
    subst c_b
    cases h with
    | nil => cases hs
    | @cons x c s ds hx hd =>
      refine ⟨_, rfl, put_fit (k := 4) hs ?_ ?_ hd⟩
      · rw [bs_app, bs_app, cnt_app, cnt_app, hx.1]
        have e1 : cnt (⟨#[123]⟩ : ByteArray).data.toList = 0 := rfl
        have e2 : cnt (lookAt 19).text.data.toList = 0 := rfl
        omega
      · rw [bs_app]
        exact end_app ⟨[], 125, rfl, by decide⟩
  rw [if_neg c_b] at hs ⊢
  by_cases c_s : o = 23
  · rw [if_pos c_s] at hs ⊢
    subst c_s
    cases h with
    | nil => cases hs
    | @cons x c s ds hx hd =>
      obtain ⟨e1, e2⟩ := within_cnt hx 3
      refine ⟨_, rfl, put_fit (k := 3) hs ?_ ?_ hd⟩
      · rw [bs_app, cnt_app]
        have e3 : cnt (lookAt 23).text.data.toList = 0 := rfl
        have e4 : cnt (withinP x (lookAt 23).left).data.toList = wn c 3 := e1
        omega
      · rw [bs_app]
        exact end_app ⟨[], 42, rfl, by decide⟩
  rw [if_neg c_s] at hs ⊢
  have mod : ∀ (a b : ByteArray) {x y : S117} {cx cy : Cn} {s : List S117} {ds : List Cn}, cnt a.data.toList = 0 → cnt b.data.toList = 0 → FitC x cx → FitC y cy → FitsC s ds → some (putS s false (((a ++ y.f0) ++ b) ++ withinP x 6) 6) = some (q, false) → FitsC q ((cy.1 + wn cx 6, 6) :: ds) := by
    intro a b x y cx cy s ds ha hb hx hy hd hp
    obtain ⟨e1, e2⟩ := within_cnt hx 6
    refine put_fit hp ?_ (by rw [bs_app]; exact end_app e2) hd
    rw [bs_app, bs_app, bs_app, cnt_app, cnt_app, cnt_app, e1, hy.1]
    omega
  by_cases c_d17 : o = 17
  · rw [if_pos c_d17] at hs ⊢
    subst c_d17
    cases h with
    | nil => cases hs
    | cons hx hd =>
      cases hd with
      | nil => cases hs
      | cons hy hd => exact ⟨_, rfl, mod _ _ rfl rfl hx hy hd hs⟩
  rw [if_neg c_d17] at hs ⊢
  by_cases c_d18 : o = 18
  · rw [if_pos c_d18] at hs ⊢
    subst c_d18
    cases h with
    | nil => cases hs
    | cons hx hd =>
      cases hd with
      | nil => cases hs
      | cons hy hd => exact ⟨_, rfl, mod _ _ rfl rfl hx hy hd hs⟩
  rw [if_neg c_d18] at hs ⊢
  by_cases c_bi : binO o = true
  · rw [if_pos c_bi] at hs ⊢
    have hor : o = 11 ∨ o = 12 ∨ o = 13 ∨ o = 14 ∨ o = 15 ∨ o = 16 ∨ o = 21 ∨ o = 22 := by unfold binO at c_bi; simp only [Bool.or_eq_true, beq_iff_eq] at c_bi; omega
    have hz : cnt (lookAt o).text.data.toList = 0 := by rcases hor with rfl | rfl | rfl | rfl | rfl | rfl | rfl | rfl <;> rfl
    cases h with
    | nil => cases hs
    | cons hx hd =>
      cases hd with
      | nil => cases hs
      | @cons y cy s ds hy hd =>
        refine ⟨_, rfl, ?_⟩
        obtain ⟨e1, e2⟩ := within_cnt hx (lookAt o).right
        obtain ⟨e3, e4⟩ := within_cnt hy (lookAt o).left
        refine put_fit hs ?_ (by rw [bs_app]; exact end_app e2) hd
        rw [bs_app, bs_app, cnt_app, cnt_app, e1, e3, hz]
        omega
  · rw [if_neg c_bi] at hs
    cases hs
theorem run_cnt {names : List ByteArray} (hc : chk names = 0) (l : List Tk) : ∀ (st : List S117) (cs : List Cn) (q : List S117), runS names st false l = some (q, false) → FitsC st cs → (∀ t ∈ l, t.f0 = 2 → 0 ≤ t.f1 ∧ t.f1 < names.length) → ∃ ds, runC cs l = some ds ∧ FitsC q ds := by
  induction l with
  | nil =>
    intro st cs q h hf _
    rw [runS] at h
    cases h
    exact ⟨cs, rfl, hf⟩
  | cons t l ih =>
    intro st cs q h hf hok
    rw [runS] at h
    cases hs : stepS names st false t with
    | none => rw [hs] at h; cases h
    | some z =>
      rw [hs] at h
      obtain ⟨z1, z2⟩ := z
      cases z2 with
      | true => exact absurd h (run_long l z1 q)
      | false =>
        obtain ⟨ds, h1, h2⟩ := step_cnt hc hs hf (hok t List.mem_cons_self)
        obtain ⟨es, h3, h4⟩ := ih _ _ _ h h2 (fun u hu => hok u (List.mem_cons_of_mem _ hu))
        exact ⟨es, by rw [runC, h1]; exact h3, h4⟩
/-- What is shown of tokens holds no opening bracket more than any words that are read as these. -/
theorem show_few {names : List ByteArray} (hc : chk names = 0) {l : List Tk} {s : ByteArray} (h : show_text.f names l = some (s, 0)) : EndOk s.data.toList ∧ ∀ u m, readL names u false = (m, 0, 0) → m = l → cnt s.data.toList ≤ cnt u := by
  unfold show_text.f at h
  by_cases c : l.length ≤ 900 ∧ l.all okT = true
  · rw [if_pos c] at h
    by_cases cm : l.any moreT = true
    · rw [if_pos cm] at h; cases h
    · rw [if_neg cm] at h
      by_cases co : l.any (outT names.length) = true
      · rw [if_pos co] at h; cases h
      · rw [if_neg co] at h
        have hout := any_no co
        have hok := List.all_eq_true.1 c.2
        cases hr : runS names [] false l with
        | none => rw [hr] at h; cases h
        | some q =>
          obtain ⟨st, lg⟩ := q
          rw [hr] at h
          cases lg with
          | true => cases h
          | false =>
            have hall : ∀ t ∈ l, t.f0 = 2 → 0 ≤ t.f1 ∧ t.f1 < names.length := by
              intro t ht e
              refine ⟨(okT_p (hok t ht)).1, ?_⟩
              have := hout t ht
              unfold outT at this
              rw [decide_eq_true e, Bool.true_and, decide_eq_false_iff_not] at this
              omega
            obtain ⟨ds, h1, h2⟩ := run_cnt hc l [] [] st hr .nil hall
            cases h2 with
            | nil => cases h
            | @cons x cn st cs hx hd =>
              have hsx : x.f0 = s := by cases h; rfl
              subst hsx
              refine ⟨hx.2.2, fun u m hu hm => ?_⟩
              subst hm
              obtain ⟨-, -, sl, hlex, hread, -⟩ := readL_ok hu
              obtain ⟨c1, r1, p1⟩ : PaidW 1 sl m [] := paid hread
              have h3 := r1 []
              rw [h1] at h3
              have h4 := lex_opens hlex
              have h5 : cn = c1 := by injection h3 with h3; injection h3
              have h6 := wn_ge c1 1
              rw [hx.1, h5]
              exact Nat.le_trans h6 (Nat.le_trans (Nat.le_trans (Nat.le_add_right _ _) p1) h4)
  · rw [if_neg c] at h; cases h
end Go.Proofs.YtaogoabnidbbpaaDoor.PText
/-! TextShows -/
namespace Go.Proofs.YtaogoabnidbbpaaDoor.PText
open Go.RowKit Go.Proofs.YtaogoabnidbbpaaDoorW.PrintWords Go.Proofs.YtaogoabnidbbpaaDoorW.PrintLast Go.Proofs.YtaogoabnidbbpaaDoorW.PrintMore
set_option linter.unusedVariables false
theorem step_goes {names : List ByteArray} {st : List Trm.Pt} {sk : List S117} {lg : Bool} {i : Nat} {t : Tk} {q : List Trm.Pt × Trm.Pt} (hl : sk.length = st.length) (hq : Trm.step i st t = some q) (h4 : t.f0 ≠ 4) (h5 : t.f0 ≠ 5) :
    ∃ z, stepS names sk lg t = some z ∧ z.1.length = (q.1 ++ [q.2]).length := by
  obtain ⟨o, p⟩ := t
  obtain ⟨n, hn, hn1, -, rfl⟩ := Trm.step_some hq
  have hn' : Trm.takesN o p = some n := hn
  have h4' : o ≠ 4 := h4
  have h5' : o ≠ 5 := h5
  clear hn hq h4 h5
  have fin : ∀ (s : List S117) (a : ByteArray) (k : Int), s.length = st.length - n → ∃ z, some (putS s lg a k) = some z ∧ z.1.length = (st.take (st.length - n) ++ [Trm.mk o i (st.drop (st.length - n))]).length := by
    intro s a k hs
    refine ⟨_, rfl, ?_⟩
    rw [putS_len, List.length_append, List.length_take, hs]
    simp
  unfold stepS
  unfold Trm.takesN at hn'
  split at hn'
  · cases hn'
  split at hn'
  · obtain rfl := Option.some.inj hn'
    rename_i ho
    have : o = 0 ∨ o = 1 ∨ o = 2 ∨ o = 3 := by omega
    rcases this with rfl | rfl | rfl | rfl <;> exact fin sk _ _ (by omega)
  split at hn'
  · obtain rfl := Option.some.inj hn'
    rename_i ho
    cases sk with
    | nil => rw [List.length_nil] at hl; omega
    | cons x s =>
      rw [List.length_cons] at hl
      rcases ho with rfl | rfl | rfl | rfl | rfl | rfl | rfl | rfl <;> exact fin s _ _ (by omega)
  split at hn'
  · obtain rfl := Option.some.inj hn'
    rename_i ho
    match sk, hl with
    | [], hl => rw [List.length_nil] at hl; omega
    | [_], hl => rw [List.length_cons, List.length_nil] at hl; omega
    | x :: y :: s, hl =>
      rw [List.length_cons, List.length_cons] at hl
      rcases ho with rfl | rfl | rfl | rfl | rfl | rfl | rfl | rfl | rfl | rfl <;> exact fin s _ _ (by omega)
  · cases hn'
theorem run_goes {names : List ByteArray} (l : List Tk) : ∀ (i : Nat) (all st : List Trm.Pt) (r : List Trm.Pt × List Trm.Pt) (sk : List S117) (lg : Bool), sk.length = st.length → Trm.run i all st l = some r → (∀ t ∈ l, t.f0 ≠ 4 ∧ t.f0 ≠ 5) → ∃ z, runS names sk lg l = some z ∧ z.1.length = r.2.length := by
  induction l with
  | nil => intro i all st r sk lg h hr _; rw [Trm.run] at hr; cases hr; exact ⟨_, rfl, h⟩
  | cons t l ih =>
    intro i all st r sk lg h hr hok
    rw [Trm.run] at hr
    cases hq : Trm.step i st t with
    | none => rw [hq] at hr; cases hr
    | some q =>
      rw [hq] at hr
      obtain ⟨z, hz, hzl⟩ := step_goes (names := names) (lg := lg) h hq (hok t List.mem_cons_self).1 (hok t List.mem_cons_self).2
      obtain ⟨y, hy, hyl⟩ := ih _ _ _ _ z.1 z.2 hzl hr (fun u hu => hok u (List.mem_cons_of_mem _ hu))
      exact ⟨y, by rw [runS, hz]; exact hy, hyl⟩
/-- Of tokens that stand something is shown. -/
theorem show_some (names : List ByteArray) {l : List Tk} {path : Bool} (hk : chkT l path = 0) (hok : ∀ t ∈ l, okT t = true) : ∃ s e, show_text.f names l = some (s, e) := by
  obtain ⟨hl5, all, p, hrun, hp, hd⟩ := check_inv hk
  unfold show_text.f
  rw [if_pos ⟨by omega, List.all_eq_true.2 hok⟩]
  by_cases cm : l.any moreT = true
  · rw [if_pos cm]; exact ⟨_, _, rfl⟩
  · rw [if_neg cm]
    by_cases co : l.any (outT names.length) = true
    · rw [if_pos co]; exact ⟨_, _, rfl⟩
    · rw [if_neg co]
      obtain ⟨z, hz, hzl⟩ := run_goes (names := names) l 0 [] [] _ [] false rfl hrun (fun t ht => by
        obtain ⟨d4, d5⟩ := moreT_no (any_no cm t ht)
        exact ⟨beq_eq_false_iff_ne.1 d4, beq_eq_false_iff_ne.1 d5⟩)
      rw [hz]
      obtain ⟨z1, z2⟩ := z
      cases z2 with
      | true => exact ⟨_, _, rfl⟩
      | false =>
        cases z1 with
        | nil => cases hzl
        | cons x s => exact ⟨_, _, rfl⟩
end Go.Proofs.YtaogoabnidbbpaaDoor.PText
