/- What check, Blocks, Depths, Put, Un and Bin tell of at most 512 tokens, in plain Lean. -/
import Derived.Test.YtgemencaeocmmaaTermRead
import Derived.Test.YtgemencaeocmmaaPTermx9
import Derived.Test.YtgemencaeocmmaaPTermx10
import Derived.Test.YtgemencaeocmmaaPTermx13
namespace Go.Proofs.Ytgemencaeocmmaa.PTerm
open Go.RowKit Go.Proofs.YtgemencaeocmmaaW.PrintWords Go.Proofs.YtgemencaeocmmaaW.PrintLast Go.Proofs.YtgemencaeocmmaaW.PrintMore
set_option linter.unusedVariables false
/-- Are the tokens a formula's (path: a path's)? The error's number. -/
def checkN (l : List Tk) (path : Bool) : Int :=
  match run 0 [] [] l with
  | some (_, [p]) => if p.f0 = path then (if p.f2 > 64 then 8 else 0) else 7
  | _ => 7
theorem check_j0 (k : Nat) (b c d : Bool) (x y : Int) : term_check.j0 (k + 1) b c d x y = some (if b = true then 7 else if x > 64 then 8 else 0) := by
  rw [term_check.j0]; split
  · rfl
  · split <;> rfl
theorem check_ev (l : List Tk) (path : Bool) (hl : l.length ≤ 512) : Ev (fun k => term_check.f k l path) (checkN l path) := by
  refine Ev.congr (f := fun k => (term_read.f k l).bind fun bt128 => if bt128.2.2.2.2.2 = true then term_check.j0 k (bt128.2.1 != path) bt128.2.1 bt128.2.2.1 bt128.2.2.2.1 bt128.2.2.2.2.1 else term_check.j0 k true bt128.2.1 bt128.2.2.1 bt128.2.2.2.1 bt128.2.2.2.2.1) (fun k => by unfold term_check.f; rw [if_neg (by omega)]) ?_
  refine Ev.bind (read_ev l hl) ?_
  have fail : ∀ r : List Pt × Bool × Bool × Int × Int × Bool, r = failed → Ev (fun k => if r.2.2.2.2.2 = true then term_check.j0 k (r.2.1 != path) r.2.1 r.2.2.1 r.2.2.2.1 r.2.2.2.2.1 else term_check.j0 k true r.2.1 r.2.2.1 r.2.2.2.1 r.2.2.2.2.1) 7 := by
    rintro _ rfl
    refine Ev.step (f := fun _ => some 7) (fun k => ?_) (Ev.now _)
    show (if false = true then _ else _) = _
    rw [if_neg (by decide), check_j0]; rfl
  unfold checkN
  cases hr : run 0 [] [] l with
  | none => exact fail _ rfl
  | some r =>
    obtain ⟨all, st⟩ := r
    match st with
    | [] => exact fail _ rfl
    | p :: q :: st => exact fail _ rfl
    | [p] =>
      refine Ev.step (f := fun _ => some _) (fun k => ?_) (Ev.now _)
      show (if true = true then term_check.j0 (k + 1) (p.f0 != path) _ _ p.f2 _ else _) = _
      rw [if_pos rfl, check_j0]
      show _ = some (if p.f0 = path then (if p.f2 > 64 then 8 else 0) else 7)
      by_cases h : p.f0 = path
      · rw [if_neg (by simp [h]), if_pos h]
      · rw [if_pos (by simp [h]), if_neg h]
theorem Check_ev (l : List Tk) (hl : l.length ≤ 512) : Ev (fun k => term_Check.f k l) (checkN l false) := Ev.congr (fun k => by unfold term_Check.f; cases term_check.f k l false <;> rfl) (check_ev l false hl)
theorem Path_ev (l : List Tk) (hl : l.length ≤ 512) : Ev (fun k => term_Path.f k l) (checkN l true) := Ev.congr (fun k => by unfold term_Path.f; cases term_check.f k l true <;> rfl) (check_ev l true hl)
/-- The parts of a formula or a path. -/
def eitherN (l : List Tk) : List Pt × Bool × Bool × Int × Int × Int :=
  match run 0 [] [] l with
  | some (all, [p]) => (all, p.f0, p.f1, p.f2, p.f3, if p.f2 > 64 then 8 else 0)
  | _ => ([], false, false, 0, 0, 7)
theorem either_ev (l : List Tk) (hl : l.length ≤ 512) : Ev (fun k => term_either.f k l) (eitherN l) := by
  refine Ev.congr (f := fun k => (term_read.f k l).bind fun bt138 => if bt138.2.2.2.2.2 = true then (term_check.f k l bt138.2.1).bind fun t147 => some (bt138.1, bt138.2.1, bt138.2.2.1, bt138.2.2.2.1, bt138.2.2.2.2.1, t147) else some (([] : List Pt), false, false, 0, 0, 7)) (fun k => by unfold term_either.f; rw [if_neg (by omega)]) ?_
  refine Ev.bind (read_ev l hl) ?_
  have hc := check_ev l
  unfold checkN at hc
  unfold eitherN
  cases hr : run 0 [] [] l with
  | none => exact Ev.congr (f := fun _ => some _) (fun k => rfl) (Ev.now _)
  | some r =>
    rw [hr] at hc
    obtain ⟨all, st⟩ := r
    match st with
    | [] => exact Ev.congr (f := fun _ => some _) (fun k => rfl) (Ev.now _)
    | p :: q :: st => exact Ev.congr (f := fun _ => some _) (fun k => rfl) (Ev.now _)
    | [p] =>
      refine Ev.congr (f := fun k => (term_check.f k l p.f0).bind fun t147 => some (all, p.f0, p.f1, p.f2, p.f3, t147)) (fun k => rfl) ?_
      have h1 := hc p.f0 hl
      simp only [if_true] at h1
      exact Ev.bind h1 (Ev.now _)
theorem blocks_loop (all : List Pt) (hal : all.length ≤ 1000) : ∀ (n i : Nat) (out : List Int), i + n = all.length → out.length ≤ i → Ev (fun k => term_Blocks.l0 k out all all.length i) (out ++ (all.drop i).map fun p => p.f3, 0) := by
  intro n
  induction n with
  | zero =>
    intro i out hi ho
    refine Ev.step (f := fun _ => some _) (fun k => ?_) (Ev.now _)
    rw [term_Blocks.l0, if_neg (by omega), List.drop_eq_nil_of_le (by omega)]; simp
  | succ n ih =>
    intro i out hi ho
    have e1 : wrap64 ((i : Int) + 1) = ((i + 1 : Nat) : Int) := by rw [w64 (by omega) (by omega)]; omega
    refine Ev.step (f := fun k => term_Blocks.l0 k (out ++ [all[i].f3]) all all.length ((i + 1 : Nat) : Int)) (fun k => ?_) ?_
    · rw [term_Blocks.l0, if_pos (by omega), if_pos (by omega), if_pos (by omega), if_pos (by omega), e1, rdT_at all i (by omega)]
    · have := ih (i + 1) (out ++ [all[i].f3]) (by omega) (by rw [List.length_append, List.length_singleton]; omega)
      rw [List.drop_eq_getElem_cons (show i < all.length by omega), List.map_cons]
      rw [List.append_assoc] at this
      exact this
theorem depths_loop (all : List Pt) (hal : all.length ≤ 1000) : ∀ (n i : Nat) (out : List Int), i + n = all.length → out.length ≤ i → Ev (fun k => term_Depths.l0 k out all all.length i) (out ++ (all.drop i).map fun p => p.f2, 0) := by
  intro n
  induction n with
  | zero =>
    intro i out hi ho
    refine Ev.step (f := fun _ => some _) (fun k => ?_) (Ev.now _)
    rw [term_Depths.l0, if_neg (by omega), List.drop_eq_nil_of_le (by omega)]; simp
  | succ n ih =>
    intro i out hi ho
    have e1 : wrap64 ((i : Int) + 1) = ((i + 1 : Nat) : Int) := by rw [w64 (by omega) (by omega)]; omega
    refine Ev.step (f := fun k => term_Depths.l0 k (out ++ [all[i].f2]) all all.length ((i + 1 : Nat) : Int)) (fun k => ?_) ?_
    · rw [term_Depths.l0, if_pos (by omega), if_pos (by omega), if_pos (by omega), if_pos (by omega), e1, rdT_at all i (by omega)]
    · have := ih (i + 1) (out ++ [all[i].f2]) (by omega) (by rw [List.length_append, List.length_singleton]; omega)
      rw [List.drop_eq_getElem_cons (show i < all.length by omega), List.map_cons]
      rw [List.append_assoc] at this
      exact this
def errN (l : List Tk) : Int := (eitherN l).2.2.2.2.2
theorem either_len (l : List Tk) (hl : l.length ≤ 512) : (eitherN l).1.length ≤ 512 := by
  unfold eitherN
  cases hr : run 0 [] [] l with
  | none => simp
  | some r =>
    obtain ⟨all, st⟩ := r
    obtain ⟨R, e, hR⟩ := run_all _ _ _ _ _ hr
    rw [List.nil_append] at e
    simp only at e
    match st with
    | [] => simp
    | p :: q :: st => simp
    | [p] => show all.length ≤ 512; rw [e]; omega
theorem blocks_ev (l : List Tk) (hl : l.length ≤ 512) : Ev (fun k => term_Blocks.f k l) (if errN l = 0 then ((eitherN l).1.map fun p => p.f3, 0) else ([], errN l)) := by
  have h512 := either_len l hl
  refine Ev.bind (either_ev l hl) ?_
  show Ev (fun k => if errN l = 0 then _ else some (([] : List Int), errN l)) _
  by_cases h : errN l = 0
  · rw [if_pos h]
    refine Ev.congr (f := fun k => term_Blocks.l0 k [] (eitherN l).1 (eitherN l).1.length 0) (fun k => by rw [if_pos h]) ?_
    exact blocks_loop (eitherN l).1 (by omega) (eitherN l).1.length 0 [] (by omega) (Nat.le_refl _)
  · rw [if_neg h]
    exact Ev.congr (f := fun k => some _) (fun k => by rw [if_neg h]) (Ev.now _)
theorem depths_ev (l : List Tk) (hl : l.length ≤ 512) : Ev (fun k => term_Depths.f k l) (if errN l = 0 then ((eitherN l).1.map fun p => p.f2, 0) else ([], errN l)) := by
  have h512 := either_len l hl
  refine Ev.bind (either_ev l hl) ?_
  show Ev (fun k => if errN l = 0 then _ else some (([] : List Int), errN l)) _
  by_cases h : errN l = 0
  · rw [if_pos h]
    refine Ev.congr (f := fun k => term_Depths.l0 k [] (eitherN l).1 (eitherN l).1.length 0) (fun k => by rw [if_pos h]) ?_
    exact depths_loop (eitherN l).1 (by omega) (eitherN l).1.length 0 [] (by omega) (Nat.le_refl _)
  · rw [if_neg h]
    exact Ev.congr (f := fun k => some _) (fun k => by rw [if_neg h]) (Ev.now _)
theorem concat_now (l0 : List (List Tk)) (h : l0.length ≤ 10) (h2 : l0.flatten.length ≤ 2000) : slices_Concat.f l0 = some l0.flatten := by unfold slices_Concat.f; rw [if_pos ⟨by omega, by omega⟩]
theorem whole_ev (l : List Tk) (path : Bool) (hl : l.length ≤ 512) : Ev (fun k => term_whole.f k l path) (if checkN l path = 0 then (l, 0) else ([], checkN l path)) := by
  refine Ev.bind (check_ev l path hl) ?_
  by_cases h : checkN l path = 0
  · rw [if_pos h]; exact Ev.congr (f := fun _ => some _) (fun k => by rw [if_pos h]) (Ev.now _)
  · rw [if_neg h]; exact Ev.congr (f := fun _ => some _) (fun k => by rw [if_neg h]) (Ev.now _)
theorem same_loop (l m : List Tk) (hlm : l.length = m.length) (hl : l.length ≤ 4611686018427387904) (he : l = m) : ∀ (n i : Nat), i + n = l.length → Ev (fun k => rejoinderkit_SameToks.l0 k l m i) true := by
  subst he
  intro n
  induction n with
  | zero => intro i hi; exact Ev.step (f := fun _ => some true) (fun k => by rw [rejoinderkit_SameToks.l0, if_neg (by omega)]) (Ev.now _)
  | succ n ih =>
    intro i hi
    have e1 : wrap64 ((i : Int) + 1) = ((i + 1 : Nat) : Int) := by rw [w64 (by omega) (by omega)]; omega
    refine Ev.step (f := fun k => rejoinderkit_SameToks.l0 k l l ((i + 1 : Nat) : Int)) (fun k => ?_) (ih (i + 1) (by omega))
    rw [rejoinderkit_SameToks.l0, if_pos (by omega), if_pos (by omega), if_pos (by omega), if_neg (by simp), e1]
theorem same_ev (l : List Tk) (hl : l.length ≤ 4611686018427387904) : Ev (fun k => rejoinderkit_SameToks.f k l l) true :=
  Ev.congr (f := fun k => rejoinderkit_SameToks.l0 k l l 0) (fun k => by unfold rejoinderkit_SameToks.f; rw [if_pos rfl]) (same_loop l l rfl hl rfl l.length 0 (by omega))
end Go.Proofs.Ytgemencaeocmmaa.PTerm
