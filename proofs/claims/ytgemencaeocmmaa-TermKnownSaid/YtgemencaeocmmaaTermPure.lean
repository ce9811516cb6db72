/- Formulas and paths as lists of tokens, in plain Lean: the run over tokens with a stack of parts, that it may be begun at any place and above any stack, and that each part's block reads by itself. -/
import Derived.Test.YtgemencaeocmmaaPTermx2
import Derived.Test.YtgemencaeocmmaaTermFits
namespace Go.Proofs.Ytgemencaeocmmaa.PTerm
open Go.RowKit Go.Proofs.YtgemencaeocmmaaW.PrintWords Go.Proofs.YtgemencaeocmmaaW.PrintLast Go.Proofs.YtgemencaeocmmaaW.PrintMore
set_option linter.unusedVariables false
abbrev Tk := S50
abbrev Pt := S55
/-- How many parts a token takes; none: there is no such token. -/
def takesN (o p : Int) : Option Nat :=
  if (¬ o = 2 ∧ ¬ p = 0) ∨ p ≥ 8 then none
  else if o = 0 ∨ o = 1 ∨ o = 2 ∨ o = 3 ∨ o = 4 ∨ o = 5 then some 0
  else if o = 6 ∨ o = 7 ∨ o = 8 ∨ o = 9 ∨ o = 10 ∨ o = 19 ∨ o = 20 ∨ o = 23 then some 1
  else if o = 11 ∨ o = 12 ∨ o = 13 ∨ o = 14 ∨ o = 15 ∨ o = 16 ∨ o = 17 ∨ o = 18 ∨ o = 21 ∨ o = 22 then some 2
  else none
def takesI (o p : Int) : Int := match takesN o p with | some n => n | none => -1
theorem takesN_le {o p : Int} {n : Nat} (h : takesN o p = some n) : n ≤ 2 := by
  unfold takesN at h
  repeat' split at h
  all_goals first | cases h | skip
  all_goals first | omega | (obtain rfl := Option.some.inj h; omega)
theorem takes_j2 (k : Nat) (o : Int) (b : Bool) : term_takes.j2 (k + 1) o b = some (if b = true then 1 else if o = 11 ∨ o = 12 ∨ o = 13 ∨ o = 14 ∨ o = 15 ∨ o = 16 ∨ o = 17 ∨ o = 18 ∨ o = 21 ∨ o = 22 then 2 else -1) := by
  simp only [term_takes.j2]
  repeat' split
  all_goals first | rfl | (exfalso; omega)
theorem takes_j1 (k : Nat) (o : Int) (b : Bool) : term_takes.j1 (k + 2) o b = some (if b = true then 0 else if o = 6 ∨ o = 7 ∨ o = 8 ∨ o = 9 ∨ o = 10 ∨ o = 19 ∨ o = 20 ∨ o = 23 then 1 else if o = 11 ∨ o = 12 ∨ o = 13 ∨ o = 14 ∨ o = 15 ∨ o = 16 ∨ o = 17 ∨ o = 18 ∨ o = 21 ∨ o = 22 then 2 else -1) := by
  rw [term_takes.j1]
  by_cases hb : b = true
  · rw [if_pos hb, if_pos hb]
  rw [if_neg hb, if_neg hb]
  have e : ∀ c : Int, (if o = c then term_takes.j2 (k + 1) o (o == c) else none) = (if o = c then some 1 else none) := by
    intro c; split
    · rename_i h; rw [takes_j2, if_pos (by rw [h]; exact beq_self_eq_true _)]
    · rfl
  have one : ∀ (c : Int) (x : Option Int), (if o = c then term_takes.j2 (k + 1) o (o == c) else x) = (if o = c then some 1 else x) := by
    intro c x; split
    · rename_i h; rw [takes_j2, if_pos (by rw [h]; exact beq_self_eq_true _)]
    · rfl
  simp only [one]
  rw [takes_j2]
  simp only [beq_iff_eq]
  repeat' split
  all_goals first | rfl | (exfalso; omega)
theorem takes_j0 (k : Nat) (o p : Int) (b : Bool) : term_takes.j0 (k + 3) b o p = some (if b = true then -1 else if o = 0 ∨ o = 1 ∨ o = 2 ∨ o = 3 ∨ o = 4 ∨ o = 5 then 0 else if o = 6 ∨ o = 7 ∨ o = 8 ∨ o = 9 ∨ o = 10 ∨ o = 19 ∨ o = 20 ∨ o = 23 then 1 else if o = 11 ∨ o = 12 ∨ o = 13 ∨ o = 14 ∨ o = 15 ∨ o = 16 ∨ o = 17 ∨ o = 18 ∨ o = 21 ∨ o = 22 then 2 else -1) := by
  rw [term_takes.j0]
  by_cases hb : b = true
  · rw [if_pos hb, if_pos hb]
  rw [if_neg hb, if_neg hb]
  have one : ∀ (c : Int) (x : Option Int), (if o = c then term_takes.j1 (k + 2) o (o == c) else x) = (if o = c then some 0 else x) := by
    intro c x; split
    · rename_i h; rw [takes_j1, if_pos (by rw [h]; exact beq_self_eq_true _)]
    · rfl
  simp only [one]
  rw [takes_j1]
  simp only [beq_iff_eq]
  repeat' split
  all_goals first | rfl | (exfalso; omega)
theorem takesI_eq (o p : Int) : takesI o p = if (¬ o = 2 ∧ ¬ p = 0) ∨ p ≥ 8 then -1 else if o = 0 ∨ o = 1 ∨ o = 2 ∨ o = 3 ∨ o = 4 ∨ o = 5 then 0 else if o = 6 ∨ o = 7 ∨ o = 8 ∨ o = 9 ∨ o = 10 ∨ o = 19 ∨ o = 20 ∨ o = 23 then 1 else if o = 11 ∨ o = 12 ∨ o = 13 ∨ o = 14 ∨ o = 15 ∨ o = 16 ∨ o = 17 ∨ o = 18 ∨ o = 21 ∨ o = 22 then 2 else -1 := by
  unfold takesI takesN
  by_cases c : (¬ o = 2 ∧ ¬ p = 0) ∨ p ≥ 8
  · rw [if_pos c, if_pos c]
  rw [if_neg c, if_neg c]
  by_cases c : o = 0 ∨ o = 1 ∨ o = 2 ∨ o = 3 ∨ o = 4 ∨ o = 5
  · rw [if_pos c, if_pos c]; rfl
  rw [if_neg c, if_neg c]
  by_cases c : o = 6 ∨ o = 7 ∨ o = 8 ∨ o = 9 ∨ o = 10 ∨ o = 19 ∨ o = 20 ∨ o = 23
  · rw [if_pos c, if_pos c]; rfl
  rw [if_neg c, if_neg c]
  by_cases c : o = 11 ∨ o = 12 ∨ o = 13 ∨ o = 14 ∨ o = 15 ∨ o = 16 ∨ o = 17 ∨ o = 18 ∨ o = 21 ∨ o = 22
  · rw [if_pos c, if_pos c]; rfl
  rw [if_neg c, if_neg c]
theorem takes_now (k : Nat) (o p : Int) : term_takes.f (k + 3) o p = some (takesI o p) := by
  rw [takesI_eq]
  unfold term_takes.f
  rw [takes_j0]
  by_cases h2 : o = 2
  · rw [if_pos h2]
    by_cases h8 : p ≥ 8
    · rw [if_pos (decide_eq_true h8), if_pos (.inr h8)]
    · have hc : ¬ ((¬ o = 2 ∧ ¬ p = 0) ∨ p ≥ 8) := by omega
      rw [if_neg (by rw [decide_eq_true_eq]; exact h8), if_neg hc]
  · rw [if_neg h2]
    by_cases h0 : p = 0
    · have hc : ¬ ((¬ o = 2 ∧ ¬ p = 0) ∨ p ≥ 8) := by omega
      rw [if_pos h0, if_neg (by rw [decide_eq_true_eq]; omega), if_neg hc]
    · have hc : (¬ o = 2 ∧ ¬ p = 0) ∨ p ≥ 8 := .inl ⟨h2, h0⟩
      rw [if_neg h0, if_pos hc, takes_j0, if_pos rfl]
/-- Is a token one of letters alone? -/
def plainB (o : Int) : Bool := decide (o = 0 ∨ o = 1 ∨ o = 2 ∨ o = 6 ∨ o = 11 ∨ o = 12 ∨ o = 13 ∨ o = 14)
theorem plain_now (o : Int) : term_plain.f o = some (plainB o) := by
  unfold term_plain.f plainB
  repeat' split
  all_goals first | (congr 1; symm; exact decide_eq_true (by omega)) | (congr 1; symm; exact decide_eq_false (by omega))
/-- May a token take these parts (as many as it takes)? -/
def fitsB (o : Int) (a : List Pt) : Bool :=
  if o = 17 ∨ o = 18 then (match a with | x :: y :: _ => x.f0 && !y.f0 | _ => false)
  else if o = 21 ∨ o = 22 then (match a with | x :: y :: _ => x.f0 && y.f0 | _ => false)
  else if o = 23 then (match a with | x :: _ => x.f0 | _ => false)
  else if o = 19 then (match a with | x :: _ => !x.f0 && x.f1 | _ => false)
  else !(a.any fun x => x.f0)
theorem fits_now {o p : Int} {n : Nat} (h : takesN o p = some n) {a : List Pt} (ha : a.length = n) : term_fits.f o a = some (fitsB o a) := by
  have hl : a.length ≤ 4611686018427387904 := by have := takesN_le h; omega
  unfold takesN at h
  rw [if_neg (by intro c; rw [if_pos c] at h; cases h)] at h
  unfold term_fits.f fitsB
  by_cases k1 : o = 17 ∨ o = 18
  · have : n = 2 := by
      rw [if_neg (by omega), if_neg (by omega), if_pos (by omega)] at h
      exact (Option.some.inj h).symm
    subst this
    rw [if_pos k1, if_pos k1]
    match a, ha with
    | [x, y], _ => rfl
  rw [if_neg k1, if_neg k1]
  by_cases k2 : o = 21 ∨ o = 22
  · have : n = 2 := by
      rw [if_neg (by omega), if_neg (by omega), if_pos (by omega)] at h
      exact (Option.some.inj h).symm
    subst this
    rw [if_pos k2, if_pos k2]
    match a, ha with
    | [x, y], _ => rfl
  rw [if_neg k2, if_neg k2]
  by_cases k3 : o = 23
  · have : n = 1 := by
      rw [if_neg (by omega), if_pos (by omega)] at h
      exact (Option.some.inj h).symm
    subst this
    rw [if_pos k3, if_pos k3]
    match a, ha with
    | [x], _ => rfl
  rw [if_neg k3, if_neg k3]
  by_cases k4 : o = 19
  · have : n = 1 := by
      rw [if_neg (by omega), if_pos (by omega)] at h
      exact (Option.some.inj h).symm
    subst this
    rw [if_pos k4, if_pos k4]
    match a, ha with
    | [x], _ => rfl
  rw [if_neg k4, if_neg k4, if_pos hl]
/-- The part that a token puts, of these. -/
def mk (o : Int) (i : Int) (a : List Pt) : Pt :=
  ⟨decide (o ≥ 19), plainB o && a.all (fun x => x.f1), a.foldl (fun d x => max d (x.f2 + 1)) 1, (a.head?.map fun x => x.f3).getD i⟩
/-- One token: the part that it puts on the stack, and what of the stack stays. -/
def step (i : Nat) (st : List Pt) (t : Tk) : Option (List Pt × Pt) :=
  (takesN t.f0 t.f1).bind fun n =>
    if n ≤ st.length then (if fitsB t.f0 (st.drop (st.length - n)) = true then some (st.take (st.length - n), mk t.f0 i (st.drop (st.length - n))) else none) else none
/-- The run over tokens, from the place i on, with the parts so far and the stack. -/
def run : Nat → List Pt → List Pt → List Tk → Option (List Pt × List Pt)
  | _, all, st, [] => some (all, st)
  | i, all, st, t :: ts => (step i st t).bind fun q => run (i + 1) (all ++ [q.2]) (q.1 ++ [q.2]) ts
theorem run_append (ts us : List Tk) : ∀ i all st, run i all st (ts ++ us) = (run i all st ts).bind fun q => run (i + ts.length) q.1 q.2 us := by
  induction ts with
  | nil => intro i all st; simp [run]
  | cons t ts ih =>
    intro i all st
    rw [List.cons_append, run, run]
    cases h : step i st t with
    | none => rfl
    | some q =>
      simp only [Option.bind_some]
      rw [ih, List.length_cons, show i + 1 + ts.length = i + (ts.length + 1) by omega]
/-- Above any stack a token does as alone. -/
theorem step_frame {i : Nat} {st : List Pt} {t : Tk} {q : List Pt × Pt} (S : List Pt) (h : step i st t = some q) : step i (S ++ st) t = some (S ++ q.1, q.2) := by
  unfold step at h ⊢
  cases hn : takesN t.f0 t.f1 with
  | none => rw [hn] at h; cases h
  | some n =>
    rw [hn] at h
    simp only [Option.bind_some] at h ⊢
    by_cases hl : n ≤ st.length
    · rw [if_pos hl] at h
      have hd : (S ++ st).drop ((S ++ st).length - n) = st.drop (st.length - n) := by
        rw [List.drop_append, List.length_append, List.drop_eq_nil_of_le (by omega), List.nil_append]
        congr 1; omega
      have ht : (S ++ st).take ((S ++ st).length - n) = S ++ st.take (st.length - n) := by
        rw [List.take_append, List.length_append, List.take_of_length_le (by omega)]
        congr 2; omega
      rw [if_pos (by rw [List.length_append]; omega), hd, ht]
      by_cases hf : fitsB t.f0 (st.drop (st.length - n)) = true
      · rw [if_pos hf] at h ⊢
        obtain rfl := Option.some.inj h
        rfl
      · rw [if_neg hf] at h; cases h
    · rw [if_neg hl] at h; cases h
theorem run_frame (ts : List Tk) : ∀ i all st A S r, run i all st ts = some r → run i (A ++ all) (S ++ st) ts = some (A ++ r.1, S ++ r.2) := by
  induction ts with
  | nil => intro i all st A S r h; rw [run] at h ⊢; obtain rfl := Option.some.inj h; rfl
  | cons t ts ih =>
    intro i all st A S r h
    rw [run] at h ⊢
    cases hs : step i st t with
    | none => rw [hs] at h; cases h
    | some q =>
      rw [hs] at h
      rw [step_frame S hs]
      simp only [Option.bind_some] at h ⊢
      rw [List.append_assoc, List.append_assoc]
      exact ih _ _ _ A S r h
/-- A part whose block begins d later. -/
def later (d : Int) (p : Pt) : Pt := ⟨p.f0, p.f1, p.f2, p.f3 + d⟩
theorem fits_later (o d : Int) (a : List Pt) : fitsB o (a.map (later d)) = fitsB o a := by
  unfold fitsB
  rcases a with _ | ⟨x, _ | ⟨y, a⟩⟩ <;> simp [later, List.any_map, Function.comp_def]
theorem mk_later (o : Int) (i : Int) (d : Int) (a : List Pt) : mk o (i + d) (a.map (later d)) = later d (mk o i a) := by
  unfold mk
  have h1 : (a.map (later d)).all (fun x => x.f1) = a.all (fun x => x.f1) := by simp [List.all_map, Function.comp_def, later]
  have h2 : ∀ z : Int, (a.map (later d)).foldl (fun d x => max d (x.f2 + 1)) z = a.foldl (fun d x => max d (x.f2 + 1)) z := by intro z; rw [List.foldl_map]; rfl
  have h3 : ((a.map (later d)).head?.map fun x => x.f3).getD (i + d) = (a.head?.map fun x => x.f3).getD i + d := by cases a <;> rfl
  rw [h1, h2, h3]
  rfl
theorem step_later (i d : Nat) (st : List Pt) (t : Tk) : step (i + d) (st.map (later d)) t = (step i st t).map fun q => (q.1.map (later d), later d q.2) := by
  unfold step
  cases takesN t.f0 t.f1 with
  | none => rfl
  | some n =>
    simp only [Option.bind_some, List.length_map]
    rw [← List.map_drop, ← List.map_take, fits_later]
    split
    · split
      · simp only [Option.map_some]
        rw [← mk_later, Int.natCast_add]
      · rfl
    · rfl
theorem run_later (d : Nat) (ts : List Tk) : ∀ i all st, run (i + d) (all.map (later d)) (st.map (later d)) ts = (run i all st ts).map fun q => (q.1.map (later d), q.2.map (later d)) := by
  induction ts with
  | nil => intro i all st; rfl
  | cons t ts ih =>
    intro i all st
    rw [run, run, step_later]
    cases step i st t with
    | none => rfl
    | some q =>
      simp only [Option.bind_some, Option.map_some]
      have := ih (i + 1) (all ++ [q.2]) (q.1 ++ [q.2])
      rw [List.map_append, List.map_append] at this
      rw [show i + d + 1 = i + 1 + d by omega]
      exact this
end Go.Proofs.Ytgemencaeocmmaa.PTerm
