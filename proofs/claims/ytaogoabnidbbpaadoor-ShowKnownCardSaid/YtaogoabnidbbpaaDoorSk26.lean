/- Texts of this work merged into one file, what the law does not need left out: TextTrmPure; TextTrmBlocks; TextTrmRead; PTextx8c; TextTrmCheck. Conditions stand in each law. -/
import Derived.Below
import Derived.Deep.Draws
import Derived.Deep.AppendLies
import Derived.Maps.AppendAt
import Derived.OwnWalk
import Derived.Laws.BytesArg
import Derived.Laws.MakeOwn
import Derived.Laws.OwnMore
import Derived.Deep.OwnRows
import Derived.Tactics
import Derived.Lib.ConvBytes
import Derived.Laws.Slices
import Derived.WalkKit
import Derived.KernelRfl
import Derived.RowKit3
import Derived.Deep.LoopGhost
import Derived.Deep.QuietTactic
import Derived.BigQuiet
import Derived.WideLaws
import Derived.Deep.DeepCutAuto
import Derived.Deep.CutBlock
import Derived.Deep.RegionHeld3
import Derived.Laws.Rows
import Derived.Lib.AppendStr
import Derived.ArgAppend
import Derived.Laws.IdiomCopy
import Derived.RowKit
import Derived.OrdersHeld
import Derived.Laws.BitsLemmas
import Derived.Laws.StructEq
import Derived.Test.YtaogoabnidbbpaaDoorProg
import Derived.Test.YtaogoabnidbbpaaDoorSk1
import Derived.Test.YtaogoabnidbbpaaDoorSk2
import Derived.Test.YtaogoabnidbbpaaDoorSk3
import Derived.Test.YtaogoabnidbbpaaDoorSk4
import Derived.Test.YtaogoabnidbbpaaDoorSk5
import Derived.Test.YtaogoabnidbbpaaDoorSk6
import Derived.Test.YtaogoabnidbbpaaDoorSk7
import Derived.Test.YtaogoabnidbbpaaDoorSk16
import Derived.Test.YtaogoabnidbbpaaDoorSk19
/-! TextTrmPure -/
namespace Go.Proofs.YtaogoabnidbbpaaDoor.PText.Trm
open Go.RowKit Go.Proofs.YtaogoabnidbbpaaDoorW.PrintWords Go.Proofs.YtaogoabnidbbpaaDoorW.PrintLast Go.Proofs.YtaogoabnidbbpaaDoorW.PrintMore
set_option linter.unusedVariables false
abbrev Tk := S55
abbrev Pt := S137
/-- How many parts a token takes; none: there is no such token. -/
def takesN (o p : Int) : Option Nat :=
  if (¬ o = 2 ∧ ¬ p = 0) ∨ p ≥ 8 then none
  else if o = 0 ∨ o = 1 ∨ o = 2 ∨ o = 3 ∨ o = 4 ∨ o = 5 then some 0
  else if o = 6 ∨ o = 7 ∨ o = 8 ∨ o = 9 ∨ o = 10 ∨ o = 19 ∨ o = 20 ∨ o = 23 then some 1
  else if o = 11 ∨ o = 12 ∨ o = 13 ∨ o = 14 ∨ o = 15 ∨ o = 16 ∨ o = 17 ∨ o = 18 ∨ o = 21 ∨ o = 22 then some 2
  else none
def takesI (o p : Int) : Int := match takesN o p with | some n => n | none => -1
theorem takesN_le {o p : Int} {n : Nat} (h : takesN o p = some n) : n ≤ 2 := by
  unfold takesN at h
  repeat' split at h
  all_goals first | cases h | skip
  all_goals first | omega | (obtain rfl := Option.some.inj h; omega)
theorem takes_j2 (k : Nat) (o : Int) (b : Bool) : term_takes.j2 (k + 1) o b = some (if b = true then 1 else if o = 11 ∨ o = 12 ∨ o = 13 ∨ o = 14 ∨ o = 15 ∨ o = 16 ∨ o = 17 ∨ o = 18 ∨ o = 21 ∨ o = 22 then 2 else -1) := by
  simp only [term_takes.j2]
  repeat' split
  all_goals first | rfl | (exfalso; omega)
theorem takes_j1 (k : Nat) (o : Int) (b : Bool) : term_takes.j1 (k + 2) o b = some (if b = true then 0 else if o = 6 ∨ o = 7 ∨ o = 8 ∨ o = 9 ∨ o = 10 ∨ o = 19 ∨ o = 20 ∨ o = 23 then 1 else if o = 11 ∨ o = 12 ∨ o = 13 ∨ o = 14 ∨ o = 15 ∨ o = 16 ∨ o = 17 ∨ o = 18 ∨ o = 21 ∨ o = 22 then 2 else -1) := by
  rw [term_takes.j1]
  by_cases hb : b = true
  · rw [if_pos hb, if_pos hb]
  rw [if_neg hb, if_neg hb]
  have e : ∀ c : Int, (if o = c then term_takes.j2 (k + 1) o (o == c) else none) = (if o = c then some 1 else none) := by
    intro c; split
    · rename_i h; rw [takes_j2, if_pos (by rw [h]; exact beq_self_eq_true _)]
    · rfl
  have one : ∀ (c : Int) (x : Option Int), (if o = c then term_takes.j2 (k + 1) o (o == c) else x) = (if o = c then some 1 else x) := by
    intro c x; split
    · rename_i h; rw [takes_j2, if_pos (by rw [h]; exact beq_self_eq_true _)]
    · rfl
  simp only [one]
  rw [takes_j2]
  simp only [beq_iff_eq]
  repeat' split
  all_goals first | rfl | (exfalso; omega)
theorem takes_j0 (k : Nat) (o p : Int) (b : Bool) : term_takes.j0 (k + 3) b o p = some (if b = true then -1 else if o = 0 ∨ o = 1 ∨ o = 2 ∨ o = 3 ∨ o = 4 ∨ o = 5 then 0 else if o = 6 ∨ o = 7 ∨ o = 8 ∨ o = 9 ∨ o = 10 ∨ o = 19 ∨ o = 20 ∨ o = 23 then 1 else if o = 11 ∨ o = 12 ∨ o = 13 ∨ o = 14 ∨ o = 15 ∨ o = 16 ∨ o = 17 ∨ o = 18 ∨ o = 21 ∨ o = 22 then 2 else -1) := by
  rw [term_takes.j0]
  by_cases hb : b = true
  · rw [if_pos hb, if_pos hb]
  rw [if_neg hb, if_neg hb]
  have one : ∀ (c : Int) (x : Option Int), (if o = c then term_takes.j1 (k + 2) o (o == c) else x) = (if o = c then some 0 else x) := by
    intro c x; split
    · rename_i h; rw [takes_j1, if_pos (by rw [h]; exact beq_self_eq_true _)]
    · rfl
  simp only [one]
  rw [takes_j1]
  simp only [beq_iff_eq]
  repeat' split
  all_goals first | rfl | (exfalso; omega)
theorem takesI_eq (o p : Int) : takesI o p = if (¬ o = 2 ∧ ¬ p = 0) ∨ p ≥ 8 then -1 else if o = 0 ∨ o = 1 ∨ o = 2 ∨ o = 3 ∨ o = 4 ∨ o = 5 then 0 else if o = 6 ∨ o = 7 ∨ o = 8 ∨ o = 9 ∨ o = 10 ∨ o = 19 ∨ o = 20 ∨ o = 23 then 1 else if o = 11 ∨ o = 12 ∨ o = 13 ∨ o = 14 ∨ o = 15 ∨ o = 16 ∨ o = 17 ∨ o = 18 ∨ o = 21 ∨ o = 22 then 2 else -1 := by
  unfold takesI takesN
  by_cases c : (¬ o = 2 ∧ ¬ p = 0) ∨ p ≥ 8
  · rw [if_pos c, if_pos c]
  rw [if_neg c, if_neg c]
  by_cases c : o = 0 ∨ o = 1 ∨ o = 2 ∨ o = 3 ∨ o = 4 ∨ o = 5
  · rw [if_pos c, if_pos c]; rfl
  rw [if_neg c, if_neg c]
  by_cases c : o = 6 ∨ o = 7 ∨ o = 8 ∨ o = 9 ∨ o = 10 ∨ o = 19 ∨ o = 20 ∨ o = 23
  · rw [if_pos c, if_pos c]; rfl
  rw [if_neg c, if_neg c]
  by_cases c : o = 11 ∨ o = 12 ∨ o = 13 ∨ o = 14 ∨ o = 15 ∨ o = 16 ∨ o = 17 ∨ o = 18 ∨ o = 21 ∨ o = 22
  · rw [if_pos c, if_pos c]; rfl
  rw [if_neg c, if_neg c]
theorem takes_now (k : Nat) (o p : Int) : term_takes.f (k + 3) o p = some (takesI o p) := by
  rw [takesI_eq]
  unfold term_takes.f
  rw [takes_j0]
  by_cases h2 : o = 2
  · rw [if_pos h2]
    by_cases h8 : p ≥ 8
    · rw [if_pos (decide_eq_true h8), if_pos (.inr h8)]
    · have hc : ¬ ((¬ o = 2 ∧ ¬ p = 0) ∨ p ≥ 8) := by omega
      rw [if_neg (by rw [decide_eq_true_eq]; exact h8), if_neg hc]
  · rw [if_neg h2]
    by_cases h0 : p = 0
    · have hc : ¬ ((¬ o = 2 ∧ ¬ p = 0) ∨ p ≥ 8) := by omega
      rw [if_pos h0, if_neg (by rw [decide_eq_true_eq]; omega), if_neg hc]
    · have hc : (¬ o = 2 ∧ ¬ p = 0) ∨ p ≥ 8 := .inl ⟨h2, h0⟩
      rw [if_neg h0, if_pos hc, takes_j0, if_pos rfl]
/-- Is a token one of letters alone? -/
def plainB (o : Int) : Bool := decide (o = 0 ∨ o = 1 ∨ o = 2 ∨ o = 6 ∨ o = 11 ∨ o = 12 ∨ o = 13 ∨ o = 14)
theorem plain_now (o : Int) : term_plain.f o = some (plainB o) := by
  unfold term_plain.f plainB
  repeat' split
  all_goals first | (congr 1; symm; exact decide_eq_true (by omega)) | (congr 1; symm; exact decide_eq_false (by omega))
/-- May a token take these parts (as many as it takes)? -/
def fitsB (o : Int) (a : List Pt) : Bool :=
  if o = 17 ∨ o = 18 then (match a with | x :: y :: _ => x.f0 && !y.f0 | _ => false)
  else if o = 21 ∨ o = 22 then (match a with | x :: y :: _ => x.f0 && y.f0 | _ => false)
  else if o = 23 then (match a with | x :: _ => x.f0 | _ => false)
  else if o = 19 then (match a with | x :: _ => !x.f0 && x.f1 | _ => false)
  else !(a.any fun x => x.f0)
theorem fits_now {o p : Int} {n : Nat} (h : takesN o p = some n) {a : List Pt} (ha : a.length = n) : term_fits.f o a = some (fitsB o a) := by
  have hl : a.length ≤ 4611686018427387904 := by have := takesN_le h; omega
  unfold takesN at h
  rw [if_neg (by intro c; rw [if_pos c] at h; cases h)] at h
  unfold term_fits.f fitsB
  by_cases k1 : o = 17 ∨ o = 18
  · have : n = 2 := by
      rw [if_neg (by omega), if_neg (by omega), if_pos (by omega)] at h
      exact (Option.some.inj h).symm
    subst this
    rw [if_pos k1, if_pos k1]
    match a, ha with
    | [x, y], _ => rfl
  rw [if_neg k1, if_neg k1]
  by_cases k2 : o = 21 ∨ o = 22
  · have : n = 2 := by
      rw [if_neg (by omega), if_neg (by omega), if_pos (by omega)] at h
      exact (Option.some.inj h).symm
    subst this
    rw [if_pos k2, if_pos k2]
    match a, ha with
    | [x, y], _ => rfl
  rw [if_neg k2, if_neg k2]
  by_cases k3 : o = 23
  · have : n = 1 := by
      rw [if_neg (by omega), if_pos (by omega)] at h
      exact (Option.some.inj h).symm
    subst this
    rw [if_pos k3, if_pos k3]
    match a, ha with
    | [x], _ => rfl
  rw [if_neg k3, if_neg k3]
  by_cases k4 : o = 19
  · have : n = 1 := by
      rw [if_neg (by omega), if_pos (by omega)] at h
      exact (Option.some.inj h).symm
    subst this
    rw [if_pos k4, if_pos k4]
    match a, ha with
    | [x], _ => rfl
  rw [if_neg k4, if_neg k4, if_pos hl]
/-- The part that a token puts, of these. -/
def mk (o : Int) (i : Int) (a : List Pt) : Pt :=
  ⟨decide (o ≥ 19), plainB o && a.all (fun x => x.f1), a.foldl (fun d x => max d (x.f2 + 1)) 1, (a.head?.map fun x => x.f3).getD i⟩
/-- One token: the part that it puts on the stack, and what of the stack stays. -/
def step (i : Nat) (st : List Pt) (t : Tk) : Option (List Pt × Pt) :=
  (takesN t.f0 t.f1).bind fun n =>
    if n ≤ st.length then (if fitsB t.f0 (st.drop (st.length - n)) = true then some (st.take (st.length - n), mk t.f0 i (st.drop (st.length - n))) else none) else none
/-- The run over tokens, from the place i on, with the parts so far and the stack. -/
def run : Nat → List Pt → List Pt → List Tk → Option (List Pt × List Pt)
  | _, all, st, [] => some (all, st)
  | i, all, st, t :: ts => (step i st t).bind fun q => run (i + 1) (all ++ [q.2]) (q.1 ++ [q.2]) ts
/-- A part whose block begins d later. -/
def later (d : Int) (p : Pt) : Pt := ⟨p.f0, p.f1, p.f2, p.f3 + d⟩
end Go.Proofs.YtaogoabnidbbpaaDoor.PText.Trm
/-! TextTrmBlocks -/
namespace Go.Proofs.YtaogoabnidbbpaaDoor.PText.Trm
open Go.RowKit Go.Proofs.YtaogoabnidbbpaaDoorW.PrintWords Go.Proofs.YtaogoabnidbbpaaDoorW.PrintLast Go.Proofs.YtaogoabnidbbpaaDoorW.PrintMore
set_option linter.unusedVariables false
/-- What a run adds to the parts. -/
theorem run_all (ts : List Tk) : ∀ i all st r, run i all st ts = some r → ∃ R, r.1 = all ++ R ∧ R.length = ts.length := by
  induction ts with
  | nil => intro i all st r h; rw [run] at h; obtain rfl := Option.some.inj h; exact ⟨[], by simp, rfl⟩
  | cons t ts ih =>
    intro i all st r h
    rw [run] at h
    cases hs : step i st t with
    | none => rw [hs] at h; cases h
    | some q =>
      rw [hs] at h
      obtain ⟨R, e, hl⟩ := ih _ _ _ r h
      exact ⟨q.2 :: R, by rw [e]; simp, by simp [hl]⟩
theorem fold_max (a : List Pt) : ∀ z : Int, z ≤ a.foldl (fun d x => max d (x.f2 + 1)) z ∧ ∀ x ∈ a, x.f2 + 1 ≤ a.foldl (fun d x => max d (x.f2 + 1)) z := by
  induction a with
  | nil => intro z; exact ⟨Int.le_refl _, fun _ h => by cases h⟩
  | cons y a ih =>
    intro z
    have h := ih (max z (y.f2 + 1))
    rw [List.foldl_cons]
    refine ⟨by have := h.1; omega, ?_⟩
    intro x hx
    rcases List.mem_cons.1 hx with rfl | hx
    · have := h.1; omega
    · exact h.2 x hx
theorem fold_bound (a : List Pt) : ∀ z m : Int, z ≤ m → (∀ x ∈ a, x.f2 + 1 ≤ m) → a.foldl (fun d x => max d (x.f2 + 1)) z ≤ m := by
  induction a with
  | nil => intro z m h _; exact h
  | cons y a ih =>
    intro z m h ha
    rw [List.foldl_cons]
    refine ih _ m ?_ fun x hx => ha x (List.mem_cons_of_mem _ hx)
    have := ha y List.mem_cons_self
    omega
end Go.Proofs.YtaogoabnidbbpaaDoor.PText.Trm
/-! TextTrmRead -/
namespace Go.Proofs.YtaogoabnidbbpaaDoor.PText.Trm
open Go.RowKit Go.Proofs.YtaogoabnidbbpaaDoorW.PrintWords Go.Proofs.YtaogoabnidbbpaaDoorW.PrintLast Go.Proofs.YtaogoabnidbbpaaDoorW.PrintMore
set_option linter.unusedVariables false
theorem w64 {x : Int} (h0 : -9223372036854775808 ≤ x) (h1 : x ≤ 9223372036854775807) : wrap64 x = x := by unfold wrap64; omega
theorem mx_max (a b : Int) : mx a b = max a b := by unfold mx; split <;> omega
theorem takes_ev (o p : Int) : Ev (fun k => term_takes.f k o p) (takesI o p) := ⟨3, fun k hk => by obtain ⟨m, rfl⟩ : ∃ m, k = m + 3 := ⟨k - 3, by omega⟩; exact takes_now m o p⟩
theorem rdT_at (a : List Pt) (j : Nat) (h : j < a.length) : rd_T137 a (j : Int) = a[j] := by unfold rd_T137; rw [Int.toNat_natCast, List.getD_eq_getElem?_getD, List.getElem?_eq_getElem h]; rfl
theorem rdK_at (a : List Tk) (j : Nat) (h : j < a.length) : rd_T55 a (j : Int) = a[j] := by unfold rd_T55; rw [Int.toNat_natCast, List.getD_eq_getElem?_getD, List.getElem?_eq_getElem h]; rfl
def failed : List Pt × Bool × Bool × Int × Int × Bool := ([], false, false, 0, 0, false)
/-- What read tells of a run's end. -/
def res : Option (List Pt × List Pt) → List Pt × Bool × Bool × Int × Int × Bool
  | some (all, [p]) => (all, p.f0, p.f1, p.f2, p.f3, true)
  | _ => failed
theorem l1_step (k : Nat) (all st : List Pt) (n : Int) (l : List Tk) (L i : Int) (a : List Pt) (j : Nat) (path plain : Bool) (depth frm : Int) (hj : j < a.length) (ha : a.length ≤ 1000) (hd : -1000 ≤ a[j].f2 ∧ a[j].f2 ≤ 1000) :
    term_read.l1 (k + 1) all st n l L i a a.length j path plain depth frm = term_read.l1 k all st n l L i a a.length ((j + 1 : Nat) : Int) path (plain && a[j].f1) (max depth (a[j].f2 + 1)) (if j = 0 then a[j].f3 else frm) := by
  rw [term_read.l1, if_pos (by omega), if_pos (by omega), if_pos (by omega), rdT_at a j hj]
  have e1 : wrap64 ((j : Int) + 1) = ((j + 1 : Nat) : Int) := by rw [w64 (by omega) (by omega)]; omega
  have e2 : wrap64 (a[j].f2 + 1) = a[j].f2 + 1 := w64 (by omega) (by omega)
  rw [e1, e2, mx_max]
  cases plain
  · rw [if_neg (by decide)]
    by_cases h0 : j = 0
    · rw [if_pos (by omega), if_pos h0]; rfl
    · rw [if_neg (by omega), if_neg h0]; rfl
  · rw [if_pos rfl, Bool.true_and]
    by_cases h0 : j = 0
    · rw [if_pos (by omega), if_pos h0]
    · rw [if_neg (by omega), if_neg h0]
theorem l1_end (k : Nat) (all st : List Pt) (n : Nat) (l : List Tk) (L : Int) (i : Nat) (a : List Pt) (path plain : Bool) (depth frm : Int) (hn : n ≤ st.length) (hs : st.length ≤ 1000) (hal : all.length ≤ 1000) (hi : i ≤ 1000) :
    term_read.l1 (k + 1) all st n l L i a a.length (a.length : Nat) path plain depth frm = term_read.l0 k (all ++ [⟨path, plain, depth, frm⟩]) (st.take (st.length - n) ++ [⟨path, plain, depth, frm⟩]) l L ((i + 1 : Nat) : Int) := by
  have e1 : wrap64 ((st.length : Int) - n) = ((st.length - n : Nat) : Int) := by rw [w64 (by omega) (by omega)]; omega
  have e2 : wrap64 ((i : Int) + 1) = ((i + 1 : Nat) : Int) := by rw [w64 (by omega) (by omega)]; omega
  rw [term_read.l1, if_neg (by omega), e1, e2, if_pos (by omega), if_pos (by omega), Int.toNat_natCast]
  simp only [Option.bind_some]
  rw [if_pos (by rw [List.length_take]; omega), if_pos (by omega)]
/-- The inner loop makes the token's part. -/
theorem fold_ev {r : List Pt × Bool × Bool × Int × Int × Bool} (all st : List Pt) (n : Nat) (l : List Tk) (L : Int) (i : Nat) (o : Int) (hn : n ≤ st.length) (h2 : n ≤ 2) (hs : st.length ≤ 1000) (hal : all.length ≤ 1000) (hi : i ≤ 1000)
    (hd : ∀ p ∈ st, 1 ≤ p.f2 ∧ p.f2 ≤ 1000) (h : Ev (fun k => term_read.l0 k (all ++ [mk o i (st.drop (st.length - n))]) (st.take (st.length - n) ++ [mk o i (st.drop (st.length - n))]) l L ((i + 1 : Nat) : Int)) r) :
    Ev (fun k => term_read.l1 k all st n l L i (st.drop (st.length - n)) ((st.drop (st.length - n)).length : Nat) 0 (decide (o ≥ 19)) (plainB o) 1 i) r := by
  have hda : ∀ p ∈ st.drop (st.length - n), 1 ≤ p.f2 ∧ p.f2 ≤ 1000 := fun p hp => hd p (List.mem_of_mem_drop hp)
  have hla : (st.drop (st.length - n)).length = n := by rw [List.length_drop]; omega
  generalize hA : st.drop (st.length - n) = a at h hda hla
  have e0 : (0 : Int) = ((0 : Nat) : Int) := rfl
  match a, hla with
  | [], e =>
    rw [e0]
    refine Ev.step (fun k => l1_end k all st n l L i [] _ _ _ _ hn hs hal hi) ?_
    simpa [mk] using h
  | [x], e =>
    have hx := hda x (by simp)
    rw [e0]
    refine Ev.step (fun k => l1_step k all st n l L i [x] 0 _ _ _ _ (by simp) (by simp) (by show -1000 ≤ x.f2 ∧ x.f2 ≤ 1000; omega)) ?_
    refine Ev.step (fun k => l1_end k all st n l L i [x] _ _ _ _ hn hs hal hi) ?_
    simpa [mk] using h
  | [x, y], e =>
    have hx := hda x (by simp)
    have hy := hda y (by simp)
    rw [e0]
    refine Ev.step (fun k => l1_step k all st n l L i [x, y] 0 _ _ _ _ (by simp) (by simp) (by show -1000 ≤ x.f2 ∧ x.f2 ≤ 1000; omega)) ?_
    refine Ev.step (fun k => l1_step k all st n l L i [x, y] 1 _ _ _ _ (by simp) (by simp) (by show -1000 ≤ y.f2 ∧ y.f2 ≤ 1000; omega)) ?_
    refine Ev.step (fun k => l1_end k all st n l L i [x, y] _ _ _ _ hn hs hal hi) ?_
    simpa [mk, Bool.and_assoc] using h
  | x :: y :: z :: a, e => exfalso; simp only [List.length_cons] at e; omega
theorem j1_fail (k : Nat) (all st : List Pt) (x7 n : Int) (l : List Tk) (L i o p : Int) : term_read.j1 (k + 1) all st x7 n l L i true o p = some failed := by rw [term_read.j1, if_pos rfl]; rfl
theorem read_from (l : List Tk) (hl : l.length ≤ 512) (ts : List Tk) : ∀ (i : Nat) (all st : List Pt), i + ts.length = l.length → l.drop i = ts → all.length = i → st.length ≤ i → (∀ p ∈ st, 1 ≤ p.f2 ∧ p.f2 ≤ i) →
    Ev (fun k => term_read.l0 k all st l l.length i) (res (run i all st ts)) := by
  induction ts with
  | nil =>
    intro i all st hi hd ha hs hp
    rw [List.length_nil] at hi
    rw [run]
    refine Ev.step (f := fun _ => some (res (some (all, st)))) (fun k => ?_) (Ev.now _)
    rw [term_read.l0, if_neg (by omega)]
    match st with
    | [] => rfl
    | [p] => rfl
    | p :: q :: st =>
      rw [if_neg (by simp only [List.length_cons]; omega)]; rfl
  | cons t ts ih =>
    intro i all st hi hd ha hs hp
    rw [List.length_cons] at hi
    have hit : l[i] = t := by
      have h1 := List.drop_eq_getElem_cons (show i < l.length by omega)
      rw [hd] at h1
      exact ((List.cons.inj h1).1).symm
    have hd2 : l.drop (i + 1) = ts := by
      have h1 := List.drop_eq_getElem_cons (show i < l.length by omega)
      rw [hd] at h1
      exact ((List.cons.inj h1).2).symm
    refine Ev.step (fun k => by rw [term_read.l0, if_pos (by omega), if_pos (by omega), if_pos (by omega), rdK_at l i (by omega), hit]) ?_
    refine Ev.bind (takes_ev t.f0 t.f1) ?_
    rw [run]
    unfold step takesI
    cases hn : takesN t.f0 t.f1 with
    | none =>
      simp only [Option.bind_none]
      refine Ev.congr (f := fun k => term_read.j1 k all st i (-1) l l.length i true t.f0 t.f1) (fun k => by rw [if_pos (by decide)]) ?_
      exact Ev.step (fun k => j1_fail k _ _ _ _ _ _ _ _ _) (Ev.now _)
    | some n =>
      have hn2 := takesN_le hn
      simp only [Option.bind_some]
      refine Ev.congr (f := fun k => term_read.j1 k all st i n l l.length i (decide ((n : Int) > st.length)) t.f0 t.f1) (fun k => by rw [if_neg (by omega)]) ?_
      by_cases hle : n ≤ st.length
      · rw [if_pos hle]
        have e0 : decide ((n : Int) > st.length) = false := decide_eq_false (by omega)
        rw [e0]
        have e1 : wrap64 ((st.length : Int) - n) = ((st.length - n : Nat) : Int) := by rw [w64 (by omega) (by omega)]; omega
        have hla : (st.drop (st.length - n)).length = n := by rw [List.length_drop]; omega
        have hfit := fits_now hn hla
        have hpl := plain_now t.f0
        refine Ev.step (f := fun k => if fitsB t.f0 (st.drop (st.length - n)) = true then term_read.l1 k all st n l l.length i (st.drop (st.length - n)) ((st.drop (st.length - n)).length : Nat) 0 (decide (t.f0 ≥ 19)) (plainB t.f0) 1 i else some failed) (fun k => ?_) ?_
        · rw [term_read.j1, if_neg (by decide), e1, if_pos (by omega), if_pos (by omega), Int.toNat_natCast]
          simp only [Option.bind_some]
          rw [hfit, hpl]
          simp only [Option.bind_some]
          rfl
        · by_cases hf : fitsB t.f0 (st.drop (st.length - n)) = true
          · rw [if_pos hf]
            refine Ev.congr (f := fun k => term_read.l1 k all st n l l.length i (st.drop (st.length - n)) ((st.drop (st.length - n)).length : Nat) 0 (decide (t.f0 ≥ 19)) (plainB t.f0) 1 i) (fun k => by rw [if_pos hf]) ?_
            refine fold_ev all st n l l.length i t.f0 hle hn2 (by omega) (by omega) (by omega) (fun p hq => by have := hp p hq; omega) ?_
            simp only [Option.bind_some]
            refine ih (i + 1) _ _ (by omega) hd2 (by rw [List.length_append, ha]; rfl) (by rw [List.length_append, List.length_take, List.length_singleton]; omega) ?_
            intro p hq
            rcases List.mem_append.1 hq with hq | hq
            · have := hp p (List.mem_of_mem_take hq); omega
            · rw [List.mem_singleton.1 hq]
              refine ⟨(fold_max _ 1).1, fold_bound _ 1 _ (by omega) fun x hx => ?_⟩
              have := hp x (List.mem_of_mem_drop hx)
              omega
          · rw [if_neg hf]
            refine Ev.congr (f := fun k => some failed) (fun k => by rw [if_neg hf]) (Ev.now _)
      · rw [if_neg hle]
        have e0 : decide ((n : Int) > st.length) = true := decide_eq_true (by omega)
        rw [e0]
        exact Ev.step (fun k => j1_fail k _ _ _ _ _ _ _ _ _) (Ev.now _)
theorem read_ev (l : List Tk) (hl : l.length ≤ 512) : Ev (fun k => term_read.f k l) (res (run 0 [] [] l)) := read_from l hl l 0 [] [] (by omega) rfl rfl (Nat.le_refl _) (fun _ h => by cases h)
end Go.Proofs.YtaogoabnidbbpaaDoor.PText.Trm
/-! PTextx8c -/
namespace Go.Proofs.YtaogoabnidbbpaaDoor.PText
open Go.RowKit Go.Proofs.YtaogoabnidbbpaaDoorW.PrintWords Go.Proofs.YtaogoabnidbbpaaDoorW.PrintLast Go.Proofs.YtaogoabnidbbpaaDoorW.PrintMore
attribute [local go_sem] max2_int min2_int max_two min_two max_three min_three max_four min_four   -- for this text's walks alone
set_option linter.unusedVariables false
set_option linter.unusedSimpArgs false
attribute [local go_sem high] eqA55
def rejoinderkit_SameToks.l0 : Nat → List (S55) → List (S55) → Int → Option (Bool)
  | 0, _, _, _ => none
  | k + 1, x0, x1, x5 => if x5 < (x0.length : Int) then (if 0 ≤ x5 then (if x5 < (x1.length : Int) then (if (!(((rd_T55 x0 x5).f0) == ((rd_T55 x1 x5).f0)) || (!(((rd_T55 x0 x5).f1) == ((rd_T55 x1 x5).f1)))) = true then (some false) else (rejoinderkit_SameToks.l0 k x0 x1 (wrap64 (x5 + 1)))) else (none)) else (none)) else (some true)
def rejoinderkit_SameToks.f (k : Nat) (l0 : List (S55)) (l1 : List (S55)) : Option (Bool) := if (l0.length : Int) = (l1.length : Int) then (rejoinderkit_SameToks.l0 k l0 l1 0) else (some false)
theorem rejoinderkit_SameToks.mono_l : ∀ k, (∀ y0 y1 y2, LeO (rejoinderkit_SameToks.l0 k y0 y1 y2) (rejoinderkit_SameToks.l0 (k + 1) y0 y1 y2))
  | 0 => fun _ _ _ r h => by simp [rejoinderkit_SameToks.l0] at h
  | k + 1 => by
    have ih0 := rejoinderkit_SameToks.mono_l k
    · intro y0 y1 y2
      unfold rejoinderkit_SameToks.l0
      repeat' first
      | (with_reducible exact ih0 _ _ _)
      | (with_reducible exact LeO.refl _)
      | (with_reducible exact LeO.none _)
      | (with_reducible refine LeO.ite ?_ ?_)
      | (with_reducible refine LeO.bind ?_ (fun _ => ?_))
      | exact ih0 _ _ _
      | exact LeO.none _
      | refine LeO.ite ?_ ?_
      | refine LeO.bind ?_ (fun _ => ?_)
theorem rejoinderkit_SameToks.mono : ∀ a0 a1 k, LeO (rejoinderkit_SameToks.f k a0 a1) (rejoinderkit_SameToks.f (k + 1) a0 a1) := by
  intro a0 a1 k
  have ih0 := rejoinderkit_SameToks.mono_l k
  unfold rejoinderkit_SameToks.f
  repeat' first
      | (with_reducible exact ih0 _ _ _)
      | (with_reducible exact LeO.refl _)
      | (with_reducible exact LeO.none _)
      | (with_reducible refine LeO.ite ?_ ?_)
      | (with_reducible refine LeO.bind ?_ (fun _ => ?_))
      | exact ih0 _ _ _
      | exact LeO.none _
      | refine LeO.ite ?_ ?_
      | refine LeO.bind ?_ (fun _ => ?_)
set_option maxHeartbeats 8000000 in
set_option maxRecDepth 100000 in
theorem rejoinderkit_SameToks.calls (k : Nat) (A0 : Option Addr) (c0 : Nat) (l0 : List (S55)) (A1 : Option Addr) (c1 : Nat) (l1 : List (S55)) (r : Bool) (w : World) (hr0 : Kd.C k55 w A0 l0.length l0) (hc0 : l0.length ≤ c0) (hr1 : Kd.C k55 w A1 l1.length l1) (hc1 : l1.length ≤ c1) (h : rejoinderkit_SameToks.f k l0 l1 = some r) :
    Calls Tryd.prog 27 #[.slice A0 l0.length c0, .slice A1 l1.length c1] w fun e w' => e = .returned (.bool r) ∧ Drawn0 w w' := by
  have hu55 := Tryd.underlying55
  have HR0 := Aside0.mk hr0
  have HC0 := Aside0.mk hc0
  clear hr0 hc0
  have HR1 := Aside0.mk hr1
  have HC1 := Aside0.mk hc1
  clear hr1 hc1
  have H : (if (l0.length : Int) = (l1.length : Int) then (rejoinderkit_SameToks.l0 k l0 l1 0) else (some false)) = some r := h
  clear h
  by_cases c3 : (l0.length : Int) = (l1.length : Int)
  · rw [if_pos c3] at H
    have c3b0 : ((l0.length : Int) == (l1.length : Int)) = true := beq_iff_eq.mpr c3
    have c3b1 : ((l0.length : Int) != (l1.length : Int)) = false := bne_eq_false_iff_eq.mpr c3
    have c3b2 : (l0.length == l1.length) = true := by first | simpa using c3 | (simp at c3 ⊢; omega)
    clear c3
    have H' := Aside0.mk H
    clear H
    go_enter Tryd.func27, Tryd.ntmps27
    go_wp2
    repeat (go_quiet (fail); try go_wp2)
    go_loopg [5] k (fun kq v5 w' => ∃ (x5_1 : Int), v5 = .int .i64 x5_1 ∧ Aside0 (rejoinderkit_SameToks.l0 kq l0 l1 x5_1 = some r) ∧ Aside0 (kq ≤ k) ∧ Drawn0 w w')
    case atStart => exact ⟨(0), (by first | rfl | (simp; done) | (simp [*]; done)), H', ⟨Nat.le_refl _⟩, by repeat (first | exact Drawn0.refl _ | apply Drawn0.step)⟩
    case round =>
      clear H'
      try clear c1
      try clear c2
      try clear p2
      try clear c3
      try clear c3b0
      try clear c3b1
      try clear c3b2
      obtain ⟨x5_1, rfl, HA, HK1, ⟨m1, rfl⟩⟩ := hrel
      cases gk with
      | zero => exact absurd HA.out (by simp [rejoinderkit_SameToks.l0])
      | succ k1 =>
        have H := HA.out
        clear HA
        simp only [rejoinderkit_SameToks.l0] at H
        by_cases c4 : x5_1 < (l0.length : Int)
        · rw [if_pos c4] at H
          have c4b0 : decide (x5_1 < (l0.length : Int)) = true := decide_eq_true c4
          clear c4
          by_cases c5 : 0 ≤ x5_1
          · rw [if_pos c5] at H
            have c5b0 : decide (0 ≤ x5_1) = true := decide_eq_true c5
            clear c5
            by_cases c6 : x5_1 < (l1.length : Int)
            · rw [if_pos c6] at H
              have c6b0 : decide (x5_1 < (l1.length : Int)) = true := decide_eq_true c6
              clear c6
              by_cases c7 : (!(((rd_T55 l0 x5_1).f0) == ((rd_T55 l1 x5_1).f0)) || (!(((rd_T55 l0 x5_1).f1) == ((rd_T55 l1 x5_1).f1)))) = true
              · rw [if_pos c7] at H
                have c7b0 : (!(((rd_T55 l0 x5_1).f0) == ((rd_T55 l1 x5_1).f0)) || (!(((rd_T55 l0 x5_1).f1) == ((rd_T55 l1 x5_1).f1)))) = true := c7
                clear c7
                obtain rfl := Option.some.inj H
                have p268 : 0 ≤ (x5_1 : Int) := of_decide_eq_true (by first | (with_reducible assumption) | assumption)
                have q268 : x5_1 < (l0.length : Int) := of_decide_eq_true (by first | (with_reducible assumption) | assumption)
                obtain ⟨ad268, e268, hx268_0, hx268_1⟩ := at_T55 HR0.out x5_1 p268 q268
                cases e268
                replace p268 := eq_true p268
                replace q268 := eq_true q268
                have p269 : 0 ≤ (x5_1 : Int) := of_decide_eq_true (by first | (with_reducible assumption) | assumption)
                have q269 : x5_1 < (l1.length : Int) := of_decide_eq_true (by first | (with_reducible assumption) | assumption)
                obtain ⟨ad269, e269, hx269_0, hx269_1⟩ := at_T55 HR1.out x5_1 p269 q269
                cases e269
                replace p269 := eq_true p269
                replace q269 := eq_true q269
                go_wp2
                repeat (go_quiet (fail); try go_wp2)
                go_ret
                exact ⟨by first | rfl | (simp; done) | (simp [*]; done), by repeat (first | exact Drawn0.refl _ | apply Drawn0.step)⟩
              · rw [if_neg c7] at H
                have c7b0 : (!(((rd_T55 l0 x5_1).f0) == ((rd_T55 l1 x5_1).f0)) || (!(((rd_T55 l0 x5_1).f1) == ((rd_T55 l1 x5_1).f1)))) = false := by simpa using c7
                clear c7
                have H' := Aside0.mk H
                clear H
                have p268 : 0 ≤ (x5_1 : Int) := of_decide_eq_true (by first | (with_reducible assumption) | assumption)
                have q268 : x5_1 < (l0.length : Int) := of_decide_eq_true (by first | (with_reducible assumption) | assumption)
                obtain ⟨ad268, e268, hx268_0, hx268_1⟩ := at_T55 HR0.out x5_1 p268 q268
                cases e268
                replace p268 := eq_true p268
                replace q268 := eq_true q268
                have p269 : 0 ≤ (x5_1 : Int) := of_decide_eq_true (by first | (with_reducible assumption) | assumption)
                have q269 : x5_1 < (l1.length : Int) := of_decide_eq_true (by first | (with_reducible assumption) | assumption)
                obtain ⟨ad269, e269, hx269_0, hx269_1⟩ := at_T55 HR1.out x5_1 p269 q269
                cases e269
                replace p269 := eq_true p269
                replace q269 := eq_true q269
                go_wp2
                repeat (go_quiet (fail); try go_wp2)
                go_roundg k1
                case measure => have := HK1.out; omega
                case rel => exact ⟨(wrap64 (x5_1 + 1)), (by first | rfl | (simp; done) | (simp [*]; done)), H', ⟨by have := HK1.out; omega⟩, by repeat (first | exact Drawn0.refl _ | apply Drawn0.step)⟩
            · rw [if_neg c6] at H
              exact absurd H (by simp)
          · rw [if_neg c5] at H
            exact absurd H (by simp)
        · rw [if_neg c4] at H
          have c4b0 : decide (x5_1 < (l0.length : Int)) = false := decide_eq_false c4
          clear c4
          obtain rfl := Option.some.inj H
          go_wp2
          repeat (go_quiet (fail); try go_wp2)
          go_ret
          exact ⟨by first | rfl | (simp; done) | (simp [*]; done), by repeat (first | exact Drawn0.refl _ | apply Drawn0.step)⟩
  · rw [if_neg c3] at H
    have c3b0 : ((l0.length : Int) == (l1.length : Int)) = false := beq_eq_false_iff_ne.mpr c3
    have c3b1 : ((l0.length : Int) != (l1.length : Int)) = true := bne_iff_ne.mpr c3
    have c3b2 : (l0.length == l1.length) = false := by first | simpa using c3 | (simp at c3 ⊢; omega)
    obtain rfl := Option.some.inj H
    go_enter Tryd.func27, Tryd.ntmps27
    go_wp2
    repeat (go_quiet (fail); try go_wp2)
    go_ret
    exact ⟨by first | rfl | (simp; done) | (simp [*]; done), by repeat (first | exact Drawn0.refl _ | apply Drawn0.step)⟩

-- NOT PRINTED: function 31 (parse_Path)

-- NOT PRINTED: function 9 (rejoinderlaw05_ParseKnown)

-- NOT PRINTED: function 25 (rejoinderlaw05_awake)
def rejoinderkit_Pick.f (a0 : Int) (a1 : Int) : Option (Int) := if a1 < 1 then (some 0) else (if a1 = 0 then (none) else (if (Int.tmod a0 a1) < 0 then (some (wrap64 ((Int.tmod a0 a1) + a1))) else (some (Int.tmod a0 a1))))
set_option maxHeartbeats 8000000 in
set_option maxRecDepth 100000 in
theorem rejoinderkit_Pick.calls (a0 : Int) (a1 : Int) (r : Int) (w : World) (h : rejoinderkit_Pick.f a0 a1 = some r) :
    Calls Tryd.prog 28 #[.int .i64 a0, .int .i64 a1] w fun e w' => e = .returned (.int .i64 r) ∧ Drawn0 w w' := by
  have H : (if a1 < 1 then (some 0) else (if a1 = 0 then (none) else (if (Int.tmod a0 a1) < 0 then (some (wrap64 ((Int.tmod a0 a1) + a1))) else (some (Int.tmod a0 a1))))) = some r := h
  clear h
  by_cases c3 : a1 < 1
  · rw [if_pos c3] at H
    have c3b0 : decide (a1 < 1) = true := decide_eq_true c3
    clear c3
    obtain rfl := Option.some.inj H
    go_enter Tryd.func28, Tryd.ntmps28
    go_wp2
    go_ret
    exact ⟨by first | rfl | (simp; done) | (simp [*]; done), by repeat (first | exact Drawn0.refl _ | apply Drawn0.step)⟩
  · rw [if_neg c3] at H
    have c3b0 : decide (a1 < 1) = false := decide_eq_false c3
    clear c3
    by_cases c4 : a1 = 0
    · rw [if_pos c4] at H
      exact absurd H (by simp)
    · rw [if_neg c4] at H
      have c4b0 : (a1 == 0) = false := beq_eq_false_iff_ne.mpr c4
      have c4b1 : (a1 != 0) = true := bne_iff_ne.mpr c4
      by_cases c5 : (Int.tmod a0 a1) < 0
      · rw [if_pos c5] at H
        have c5b0 : decide ((Int.tmod a0 a1) < 0) = true := decide_eq_true c5
        clear c5
        obtain rfl := Option.some.inj H
        go_enter Tryd.func28, Tryd.ntmps28
        go_wp2
        go_ret
        exact ⟨by first | rfl | (simp; done) | (simp [*]; done), by repeat (first | exact Drawn0.refl _ | apply Drawn0.step)⟩
      · rw [if_neg c5] at H
        have c5b0 : decide ((Int.tmod a0 a1) < 0) = false := decide_eq_false c5
        clear c5
        obtain rfl := Option.some.inj H
        go_enter Tryd.func28, Tryd.ntmps28
        go_wp2
        go_ret
        exact ⟨by first | rfl | (simp; done) | (simp [*]; done), by repeat (first | exact Drawn0.refl _ | apply Drawn0.step)⟩
def rejoinderkit_CopyToks.f (l0 : List (S55)) : Option ((List (S55))) := (some (([] : List (S55)) : List (S55))).bind fun y304 => (if y304.length + l0.length < 70368744177664 then (some (y304 ++ l0)) else (none))
set_option maxHeartbeats 8000000 in
set_option maxRecDepth 100000 in
theorem rejoinderkit_CopyToks.calls (A0 : Option Addr) (c0 : Nat) (l0 : List (S55)) (r : List (S55)) (w : World) (hr0 : Kd.C k55 w A0 l0.length l0) (hc0 : l0.length ≤ c0) (h : rejoinderkit_CopyToks.f l0 = some r) :
    Calls Tryd.prog 29 #[.slice A0 l0.length c0] w fun e w' => ∃ v0_ : Value, e = .returned (v0_) ∧ Kd.R k55 55 w' w.heap.size (fun _ => True) v0_ r ∧ Below w.heap.size w w' := by
  have HR0 := Aside0.mk hr0
  have HC0 := Aside0.mk hc0
  clear hr0 hc0
  have HB := Aside0.mk (Below.refl w.heap.size w)
  have H : ((some (([] : List (S55)) : List (S55))).bind fun y304 => (if y304.length + l0.length < 70368744177664 then (some (y304 ++ l0)) else (none))) = some r := h
  clear h
  obtain ⟨y304, hy304⟩ : ∃ y_ : List (S55), y_ = (([] : List (S55))) := ⟨_, rfl⟩
  replace H : (if y304.length + l0.length < 70368744177664 then (some (y304 ++ l0)) else (none)) = some r := by first | (rw [hy304]; with_reducible exact H) | (have H2_ := (Option.bind_some _ _).symm.trans H; rw [hy304]; with_reducible exact H2_) | (have H2_ := (Option.bind_some _ _).symm.trans H; with_reducible exact H2_) | with_reducible exact H | (rw [hy304]; exact H) | exact H
  have Ny304 := Aside0.mk hy304
  clear hy304
  by_cases c2 : y304.length + l0.length < 70368744177664
  · rw [if_pos c2] at H
    have LMc2 := Aside0.mk c2
    clear c2
    obtain ⟨y307, hy307⟩ : ∃ y_ : List (S55), y_ = (y304 ++ l0) := ⟨_, rfl⟩
    replace H : (some y307) = some r := by first | (rw [hy307]; with_reducible exact H) | (have H2_ := (Option.bind_some _ _).symm.trans H; rw [hy307]; with_reducible exact H2_) | (have H2_ := (Option.bind_some _ _).symm.trans H; with_reducible exact H2_) | with_reducible exact H | (rw [hy307]; exact H) | exact H
    have Ny307 := Aside0.mk hy307
    clear hy307
    obtain rfl := Option.some.inj H
    go_enter Tryd.func29, Tryd.ntmps29
    go_wp2_with (first | ((with_reducible refine gate_dst (N := 3) rfl ?_); refine Kd.R_lit k55 _ 55 ?hg (N := 3) ?hd (xs := ([] : List (S55))) (inner := []) (ok := fun _ => True) (okp := fun _ => True) ?hr ?hp (fun _ hk => hk) trivial (Below.refl _ _) (Nat.le_refl _) (by simp) ?_; (case hd => rfl); (case hg => rfl); (case hr => first | (go_simp; done) | (go_simp; rfl)); (case hp => exact (Reps.none _ _)); intro v305 w3 ho4 hb hg_ hnew_; clear hg_ hnew_; (first | rw [← Ny304.out] at ho4 | (simp only [Int.reduceToNat] at ho4; rw [← Ny304.out] at ho4)); have n0_ := Aside0.mk (Kd.R_lower ho4 (below_size (by repeat (first | (with_reducible first | exact HB.out | apply below_alloc | apply pw_below_drewN | apply below_drew1) | exact HB.out)))); have n1_ := Aside0.mk (below_step (by repeat (first | (with_reducible first | exact HB.out | apply below_alloc | apply pw_below_drewN | apply below_drew1) | exact HB.out)) hb); clear HB; have HO306 := n0_; have HB := n1_; clear n0_ n1_; clear hb ho4) | ((with_reducible refine gate_builtin (b := .append) (xs := #[.tmp 3, .tmp 4]) rfl ?_); at_builtin; refine Kd.R_append_rows k55 (w0 := w) w.heap.size rfl (.tmp 3) (.tmp 4) 46 55 (.agg #[(.int .u8 0), (.int .u8 0)]) 2 rfl Tryd.underlying46 info55 rfl (by decide) (by omega) v305 y304 l0 _ _ _ (fun _ => True) (fun _ => False) rfl rfl ?aO ?aR (fun _ _ h => h) (fun _ h => h.elim) ?aF ?aB ?aS ?aL ?_; (case aR => repeat (first | exact (Kd.C_below HR0.out HB.out) | (with_reducible refine Kd.C_alloc ?_ _) | (with_reducible refine Kd.C_drewN ?_ _) | (with_reducible refine Kd.C_drew ?_))); (case aB => exact (by repeat (first | (with_reducible first | exact HB.out | apply below_alloc | apply pw_below_drewN | apply below_drew1) | exact HB.out))); (case aF => exact (fun _ _ => trivial)); (case aO => exact (by (with_reducible repeat (first | apply Kd.R_alloc | apply Kd.R_drewN | apply Kd.R_drew)); exact HO306.out)); (case aS => exact (below_size (by repeat (first | (with_reducible first | exact HB.out | apply below_alloc | apply pw_below_drewN | apply below_drew1) | exact HB.out)))); (case aL => have := LMc2.out; omega); intro v308 w5 ho hb hg hat; rw [← Ny307.out] at ho; have n0_ := Aside0.mk (hb); have n1_ := Aside0.mk (ho); clear HB; clear HO306; have HB := n0_; have HO309 := n1_; clear n0_ n1_; clear ho hb hg hat))
    go_ret
    exact ⟨_, by first | rfl | (simp [errW_none, errW_some] <;> rfl) | (simp [*, errW_none, errW_some] <;> rfl), by (with_reducible repeat (first | apply Kd.R_alloc | apply Kd.R_drewN | apply Kd.R_drew)); exact HO309.out, by repeat (first | (with_reducible first | exact HB.out | apply below_alloc | apply pw_below_drewN | apply below_drew1) | exact HB.out)⟩
  · rw [if_neg c2] at H
    exact absurd H (by simp)

-- NOT PRINTED: function 6 (rejoinderlaw05_ParseJoins)

-- NOT PRINTED: function 8 (rejoinderlaw05_ParsePaths)

-- NOT PRINTED: function 77 (show_looks)

-- NOT PRINTED: function 79 (show_worker_take)

-- NOT PRINTED: function 95 (show_worker_put)
end Go.Proofs.YtaogoabnidbbpaaDoor.PText
/-! TextTrmCheck -/
namespace Go.Proofs.YtaogoabnidbbpaaDoor.PText.Trm
open Go.RowKit Go.Proofs.YtaogoabnidbbpaaDoorW.PrintWords Go.Proofs.YtaogoabnidbbpaaDoorW.PrintLast Go.Proofs.YtaogoabnidbbpaaDoorW.PrintMore
set_option linter.unusedVariables false
/-- Are the tokens a formula's (path: a path's)? The error's number. -/
def checkN (l : List Tk) (path : Bool) : Int :=
  match run 0 [] [] l with
  | some (_, [p]) => if p.f0 = path then (if p.f2 > 64 then 8 else 0) else 7
  | _ => 7
theorem check_j0 (k : Nat) (b c d : Bool) (x y : Int) : term_check.j0 (k + 1) b c d x y = some (if b = true then 7 else if x > 64 then 8 else 0) := by
  rw [term_check.j0]; split
  · rfl
  · split <;> rfl
theorem check_ev (l : List Tk) (path : Bool) (hl : l.length ≤ 512) : Ev (fun k => term_check.f k l path) (checkN l path) := by
  refine Ev.congr (f := fun k => (term_read.f k l).bind fun bt128 => if bt128.2.2.2.2.2 = true then term_check.j0 k (bt128.2.1 != path) bt128.2.1 bt128.2.2.1 bt128.2.2.2.1 bt128.2.2.2.2.1 else term_check.j0 k true bt128.2.1 bt128.2.2.1 bt128.2.2.2.1 bt128.2.2.2.2.1) (fun k => by unfold term_check.f; rw [if_neg (by omega)]) ?_
  refine Ev.bind (read_ev l hl) ?_
  have fail : ∀ r : List Pt × Bool × Bool × Int × Int × Bool, r = failed → Ev (fun k => if r.2.2.2.2.2 = true then term_check.j0 k (r.2.1 != path) r.2.1 r.2.2.1 r.2.2.2.1 r.2.2.2.2.1 else term_check.j0 k true r.2.1 r.2.2.1 r.2.2.2.1 r.2.2.2.2.1) 7 := by
    rintro _ rfl
    refine Ev.step (f := fun _ => some 7) (fun k => ?_) (Ev.now _)
    show (if false = true then _ else _) = _
    rw [if_neg (by decide), check_j0]; rfl
  unfold checkN
  cases hr : run 0 [] [] l with
  | none => exact fail _ rfl
  | some r =>
    obtain ⟨all, st⟩ := r
    match st with
    | [] => exact fail _ rfl
    | p :: q :: st => exact fail _ rfl
    | [p] =>
      refine Ev.step (f := fun _ => some _) (fun k => ?_) (Ev.now _)
      show (if true = true then term_check.j0 (k + 1) (p.f0 != path) _ _ p.f2 _ else _) = _
      rw [if_pos rfl, check_j0]
      show _ = some (if p.f0 = path then (if p.f2 > 64 then 8 else 0) else 7)
      by_cases h : p.f0 = path
      · rw [if_neg (by simp [h]), if_pos h]
      · rw [if_pos (by simp [h]), if_neg h]
end Go.Proofs.YtaogoabnidbbpaaDoor.PText.Trm
