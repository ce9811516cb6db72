/- Texts of this work merged into one file, what the law does not need left out: TermFits; TextTrmPure; TextTrmBlocks; TermW0; TermW1; TermW2; TermW3. Conditions stand in each law. -/
import Derived.Test.YtaogoabnidbbpaaGreatDoorSt7
import Derived.Test.YtaogoabnidbbpaaGreatDoorSt8
namespace Go.Proofs.YtaogoabnidbbpaaGreatDoor.PText
open Go.RowKit Go.Proofs.YtaogoabnidbbpaaGreatDoorW.PrintWords Go.Proofs.YtaogoabnidbbpaaGreatDoorW.PrintLast Go.Proofs.YtaogoabnidbbpaaGreatDoorW.PrintMore
set_option linter.unusedVariables false
set_option linter.unusedSimpArgs false
/-- The part's first field: is it a path? -/
theorem isPath (b c : Bool) (d f : Int) (w : World) : Calls Tryz.prog 72 #[.agg #[.bool b, .bool c, .int .i64 d, .int .i64 f]] w fun e w' => e = .returned (.bool b) ∧ Below w.heap.size w w' := by
 go_enter Tryz.func72, Tryz.ntmps72
 go_wp2
 go_ret
 exact ⟨rfl, below_alloc (Below.refl _ _) _⟩
/-- Where the first path stands among the parts, from n on; -1: nowhere. -/
def pathAt (l : List S77) (n : Nat) : Int := if n < l.length then (if (l.getD n z77).f0 = true then (n : Int) else pathAt l (n + 1)) else -1
termination_by l.length - n
theorem pathAt_any (l : List S77) : ∀ k n, l.length - n = k → decide (pathAt l n ≥ 0) = (l.drop n).any (fun x => x.f0) := by
 intro k
 induction k with
 | zero =>
  intro n h
  unfold pathAt
  rw [if_neg (by omega), List.drop_eq_nil_of_le (by omega)]
  rfl
 | succ k ih =>
  intro n h
  unfold pathAt
  have hn : n < l.length := by omega
  rw [if_pos hn, List.drop_eq_getElem_cons hn, List.any_cons]
  have e : l.getD n z77 = l[n] := by rw [List.getD_eq_getElem?_getD, List.getElem?_eq_getElem hn]; rfl
  rw [e]
  cases hb : l[n].f0
  ·rw [if_neg (by decide), ih (n + 1) (by omega)]; rfl
  ·rw [if_pos rfl, Bool.true_or]; simp
set_option maxHeartbeats 1000000 in
theorem index_calls (A : Option Addr) (c : Nat) (l : List S77) (w : World) (hr : Kd.C k77 w A l.length l) (hl : l.length ≤ 4611686018427387904) :
  Calls Tryz.prog 89 #[.slice A l.length c, .func (.func 72) #[] #[]] w fun e w' => e = .returned (.int .i64 (pathAt l 0)) ∧ Below w.heap.size w w' := by
 have HR := Aside0.mk hr
 clear hr
 obtain ⟨n, hn⟩ : ∃ n, n = l.length := ⟨_, rfl⟩
 rw [← hn] at HR hl ⊢
 have HN := Aside0.mk hn
 clear hn
 go_enter Tryz.func89, Tryz.ntmps89
 go_wp2
 go_loopw [8] (fun i w' => ∃ j : Nat, j ≤ n ∧ i = .int .i64 j ∧ Aside0 (pathAt l j = pathAt l 0) ∧ Aside0 (Below w.heap.size w w')) (fun i _ => n - (intOf i).toNat)
 case atStart => exact ⟨0, Nat.zero_le _, rfl, ⟨rfl⟩, ⟨Below.refl _ _⟩⟩
 case round =>
  obtain ⟨j, hj, rfl, HP, HB⟩ := hrel
  by_cases hlt : j < n
  ·have hrd := HR.out
   rw [HN.out] at hrd
   obtain ⟨ad, e1, h0, h1, h2, h3⟩ := at_T77 hrd (j : Int) (by omega) (by have := HN.out; omega)
   obtain ⟨x, hx⟩ : ∃ x, x = rd_T77 l j := ⟨_, rfl⟩
   rw [← hx] at h0 h1 h2 h3
   have HX := Aside0.mk hx
   cases e1
   clear hrd hx
   rw [Int.toNat_natCast] at h0 h1 h2 h3
   replace h0 := pw_cell_below HB.out h0
   replace h1 := pw_cell_below HB.out h1
   replace h2 := pw_cell_below HB.out h2
   replace h3 := pw_cell_below HB.out h3
   have g0 : (0 : Int) ≤ j := by omega
   have g1 : (j : Int) < n := by omega
   obtain ⟨b, c1, d, f⟩ := x
   simp only at h0 h1 h2 h3
   have HP2 : pathAt l j = if b = true then (j : Int) else pathAt l (j + 1) := by
    rw [pathAt, if_pos (by have := HN.out; omega)]
    have e : l.getD j z77 = rd_T77 l j := by unfold rd_T77; rw [Int.toNat_natCast]
    rw [e, ← HX.out]
   cases b
   ·rw [if_neg (by decide)] at HP2
    replace HP2 := Aside0.mk (HP.out.symm.trans HP2)
    clear HX HP
    go_wp2_with (go_at_call 72; refine (isPath false c1 d f _).mono ?_; rintro e w1 ⟨rfl, hb⟩)
    go_roundw
    case rel => exact ⟨j + 1, by omega, by go_num, ⟨HP2.out.symm⟩, ⟨below_step HB.out hb⟩⟩
    case measure => simp [intOf]; omega
   ·rw [if_pos rfl] at HP2
    replace HP2 := Aside0.mk (HP.out.symm.trans HP2)
    clear HX HP
    go_wp2_with (go_at_call 72; refine (isPath true c1 d f _).mono ?_; rintro e w1 ⟨rfl, hb⟩)
    go_ret
    exact ⟨congrArg (fun x : Int => Ending.returned (.int .i64 x)) HP2.out.symm, below_step HB.out hb⟩
  ·obtain rfl : j = n := by omega
   go_wp2
   go_ret
   exact ⟨congrArg (fun x : Int => Ending.returned (.int .i64 x)) (by rw [← HP.out, pathAt, if_neg (by have := HN.out; omega)]), HB.out⟩
theorem contains_calls (A : Option Addr) (c : Nat) (l : List S77) (w : World) (hr : Kd.C k77 w A l.length l) (hl : l.length ≤ 4611686018427387904) :
  Calls Tryz.prog 71 #[.slice A l.length c, .func (.func 72) #[] #[]] w fun e w' => e = .returned (.bool (l.any fun x => x.f0)) ∧ Below w.heap.size w w' := by
 have H := Aside0.mk (index_calls A c l w hr hl)
 have HP := Aside0.mk (pathAt_any l _ 0 rfl)
 clear hr hl
 generalize l.length = n at H ⊢
 go_enter Tryz.func71, Tryz.ntmps71
 go_wp2_with (go_at_call 89; refine H.out.mono ?_; rintro e w1 ⟨rfl, hb⟩)
 go_ret
 have := HP.out
 rw [List.drop_zero] at this
 exact ⟨congrArg (fun x : Bool => Ending.returned (.bool x)) this, hb⟩
/-- May the token take these parts? Nothing where there are too few. -/
def term_fits.f (a0 : Int) (l1 : List S77) : Option Bool :=
 if a0 = 17 ∨ a0 = 18 then (match l1 with | x :: y :: _ => some (x.f0 && !y.f0) | _ => none)
 else if a0 = 21 ∨ a0 = 22 then (match l1 with | x :: y :: _ => some (x.f0 && y.f0) | _ => none)
 else if a0 = 23 then (match l1 with | x :: _ => some x.f0 | _ => none)
 else if a0 = 19 then (match l1 with | x :: _ => some (!x.f0 && x.f1) | _ => none)
 else if l1.length ≤ 4611686018427387904 then some (!(l1.any fun x => x.f0)) else none
theorem first_part {A : Option Addr} {x : S77} {l : List S77} {w : World} (hr : Kd.C k77 w A (x :: l).length (x :: l)) : ∃ ad, A = some ad ∧ w.cell? ad = some (.bool x.f0) ∧ w.cell? ⟨ad.block, ad.off + 1, none⟩ = some (.bool x.f1) := by
 obtain ⟨ad, e1, h0, h1, h2, h3⟩ := at_T77 hr 0 (by omega) (by simp)
 refine ⟨ad, e1, ?_, ?_⟩
 ·rw [show (0 : Int).toNat * 4 = 0 from rfl, Addr.add_zero'] at h0; exact h0
 ·rw [show (0 : Int).toNat * 4 = 0 from rfl, Addr.add_zero'] at h1; exact h1
theorem second_part {ad : Addr} {x y : S77} {l : List S77} {w : World} (hr : Kd.C k77 w (some ad) (x :: y :: l).length (x :: y :: l)) : w.cell? ⟨ad.block, ad.off + 4, none⟩ = some (.bool y.f0) := by
 obtain ⟨ad1, e1, h0, h1, h2, h3⟩ := at_T77 hr 1 (by omega) (by simp; omega)
 cases e1
 simp only [show (1 : Int).toNat = 1 from rfl, Nat.reduceMul, Nat.reduceEqDiff, Go.Addr.add, ↓reduceIte] at h0
 exact h0
set_option maxHeartbeats 4000000 in
theorem fits_two (a0 : Int) (ad : Addr) (n c1 : Nat) (b b2 : Bool) (w : World) (hn : 2 ≤ n) (h0 : w.cell? ad = some (.bool b)) (h1 : w.cell? ⟨ad.block, ad.off + 4, none⟩ = some (.bool b2)) :
  ((a0 = 17 ∨ a0 = 18) → Calls Tryz.prog 55 #[.int .u8 a0, .slice (some ad) n c1] w fun e w' => e = .returned (.bool (b && !b2)) ∧ Below w.heap.size w w') ∧
  ((a0 = 21 ∨ a0 = 22) → Calls Tryz.prog 55 #[.int .u8 a0, .slice (some ad) n c1] w fun e w' => e = .returned (.bool (b && b2)) ∧ Below w.heap.size w w') := by
 have g0 : (0 : Int) < n := by omega
 have g1 : (1 : Int) < n := by omega
 constructor
 all_goals
  rintro (rfl | rfl)
  all_goals
   cases b
   all_goals
    go_enter Tryz.func55, Tryz.ntmps55
    go_wp2
    go_ret
    exact ⟨rfl, Below.refl _ _⟩
set_option maxHeartbeats 4000000 in
theorem fits_one (ad : Addr) (n c1 : Nat) (b b2 : Bool) (w : World) (hn : 1 ≤ n) (h0 : w.cell? ad = some (.bool b)) (h1 : w.cell? ⟨ad.block, ad.off + 1, none⟩ = some (.bool b2)) :
  (Calls Tryz.prog 55 #[.int .u8 23, .slice (some ad) n c1] w fun e w' => e = .returned (.bool b) ∧ Below w.heap.size w w') ∧
  (Calls Tryz.prog 55 #[.int .u8 19, .slice (some ad) n c1] w fun e w' => e = .returned (.bool (!b && b2)) ∧ Below w.heap.size w w') := by
 have g0 : (0 : Int) < n := by omega
 constructor
 all_goals
  cases b
  all_goals
   go_enter Tryz.func55, Tryz.ntmps55
   go_wp2
   go_ret
   exact ⟨rfl, Below.refl _ _⟩
set_option maxHeartbeats 4000000 in
theorem fits_else (a0 : Int) (A : Option Addr) (c : Nat) (l : List S77) (w : World) (hr : Kd.C k77 w A l.length l) (hl : l.length ≤ 4611686018427387904)
  (c17 : ¬ a0 = 17) (c18 : ¬ a0 = 18) (c21 : ¬ a0 = 21) (c22 : ¬ a0 = 22) (c23 : ¬ a0 = 23) (c19 : ¬ a0 = 19) :
  Calls Tryz.prog 55 #[.int .u8 a0, .slice A l.length c] w fun e w' => e = .returned (.bool (!(l.any fun x => x.f0))) ∧ Below w.heap.size w w' := by
 have H := Aside0.mk (contains_calls A c l w hr hl)
 clear hr hl
 generalize l.length = n at H ⊢
 generalize (l.any fun x => x.f0) = b at H ⊢
 replace c17 : (a0 == 17) = false := beq_eq_false_iff_ne.mpr c17
 replace c18 : (a0 == 18) = false := beq_eq_false_iff_ne.mpr c18
 replace c21 : (a0 == 21) = false := beq_eq_false_iff_ne.mpr c21
 replace c22 : (a0 == 22) = false := beq_eq_false_iff_ne.mpr c22
 replace c23 : (a0 == 23) = false := beq_eq_false_iff_ne.mpr c23
 replace c19 : (a0 == 19) = false := beq_eq_false_iff_ne.mpr c19
 go_enter Tryz.func55, Tryz.ntmps55
 go_wp2_with (go_at_call 71; refine H.out.mono ?_; rintro e w1 ⟨rfl, hb⟩)
 go_ret
 exact ⟨rfl, hb⟩
theorem term_fits.calls (a0 : Int) (A1 : Option Addr) (c1 : Nat) (l1 : List S77) (r : Bool) (w : World) (hr1 : Kd.C k77 w A1 l1.length l1) (hc1 : l1.length ≤ c1) (h : term_fits.f a0 l1 = some r) :
  Calls Tryz.prog 55 #[.int .u8 a0, .slice A1 l1.length c1] w fun e w' => e = .returned (.bool r) ∧ Below w.heap.size w w' := by
 unfold term_fits.f at h
 by_cases k1 : a0 = 17 ∨ a0 = 18
 ·rw [if_pos k1] at h
  rcases l1 with _ | ⟨x, _ | ⟨y, l⟩⟩ <;> simp only at h
  ·cases h
  ·cases h
  ·obtain rfl := Option.some.inj h
   obtain ⟨ad, rfl, h0, _⟩ := first_part hr1
   exact (fits_two a0 ad _ c1 x.f0 y.f0 w (by simp) h0 (second_part hr1)).1 k1
 rw [if_neg k1] at h
 by_cases k2 : a0 = 21 ∨ a0 = 22
 ·rw [if_pos k2] at h
  rcases l1 with _ | ⟨x, _ | ⟨y, l⟩⟩ <;> simp only at h
  ·cases h
  ·cases h
  ·obtain rfl := Option.some.inj h
   obtain ⟨ad, rfl, h0, _⟩ := first_part hr1
   exact (fits_two a0 ad _ c1 x.f0 y.f0 w (by simp) h0 (second_part hr1)).2 k2
 rw [if_neg k2] at h
 by_cases k3 : a0 = 23
 ·rw [if_pos k3] at h
  rcases l1 with _ | ⟨x, l⟩ <;> simp only at h
  ·cases h
  ·obtain rfl := Option.some.inj h
   obtain ⟨ad, rfl, h0, h1⟩ := first_part hr1
   rw [k3]
   exact (fits_one ad _ c1 x.f0 x.f1 w (by simp) h0 h1).1
 rw [if_neg k3] at h
 by_cases k4 : a0 = 19
 ·rw [if_pos k4] at h
  rcases l1 with _ | ⟨x, l⟩ <;> simp only at h
  ·cases h
  ·obtain rfl := Option.some.inj h
   obtain ⟨ad, rfl, h0, h1⟩ := first_part hr1
   rw [k4]
   exact (fits_one ad _ c1 x.f0 x.f1 w (by simp) h0 h1).2
 rw [if_neg k4] at h
 split at h
 case isFalse => cases h
 case isTrue hl =>
  obtain rfl := Option.some.inj h
  exact fits_else a0 A1 c1 l1 w hr1 hl (fun e => k1 (.inl e)) (fun e => k1 (.inr e)) (fun e => k2 (.inl e)) (fun e => k2 (.inr e)) k3 k4
end Go.Proofs.YtaogoabnidbbpaaGreatDoor.PText
namespace Go.Proofs.YtaogoabnidbbpaaGreatDoor.PText.Trm
open Go.RowKit Go.Proofs.YtaogoabnidbbpaaGreatDoorW.PrintWords Go.Proofs.YtaogoabnidbbpaaGreatDoorW.PrintLast Go.Proofs.YtaogoabnidbbpaaGreatDoorW.PrintMore
set_option linter.unusedVariables false
set_option linter.unusedSimpArgs false
abbrev Tk := S41
abbrev Pt := S77
/-- How many parts a token takes; none: there is no such token. -/
def takesN (o p : Int) : Option Nat :=
 if (¬ o = 2 ∧ ¬ p = 0) ∨ p ≥ 8 then none
 else if o = 0 ∨ o = 1 ∨ o = 2 ∨ o = 3 ∨ o = 4 ∨ o = 5 then some 0
 else if o = 6 ∨ o = 7 ∨ o = 8 ∨ o = 9 ∨ o = 10 ∨ o = 19 ∨ o = 20 ∨ o = 23 then some 1
 else if o = 11 ∨ o = 12 ∨ o = 13 ∨ o = 14 ∨ o = 15 ∨ o = 16 ∨ o = 17 ∨ o = 18 ∨ o = 21 ∨ o = 22 then some 2
 else none
def takesI (o p : Int) : Int := match takesN o p with | some n => n | none => -1
theorem takesN_le {o p : Int} {n : Nat} (h : takesN o p = some n) : n ≤ 2 := by
 unfold takesN at h
 repeat' split at h
 all_goals first | cases h | skip
 all_goals first | omega | (obtain rfl := Option.some.inj h; omega)
theorem takesI_eq (o p : Int) : takesI o p = if (¬ o = 2 ∧ ¬ p = 0) ∨ p ≥ 8 then -1 else if o = 0 ∨ o = 1 ∨ o = 2 ∨ o = 3 ∨ o = 4 ∨ o = 5 then 0 else if o = 6 ∨ o = 7 ∨ o = 8 ∨ o = 9 ∨ o = 10 ∨ o = 19 ∨ o = 20 ∨ o = 23 then 1 else if o = 11 ∨ o = 12 ∨ o = 13 ∨ o = 14 ∨ o = 15 ∨ o = 16 ∨ o = 17 ∨ o = 18 ∨ o = 21 ∨ o = 22 then 2 else -1 := by
 unfold takesI takesN
 by_cases c : (¬ o = 2 ∧ ¬ p = 0) ∨ p ≥ 8
 ·rw [if_pos c, if_pos c]
 rw [if_neg c, if_neg c]
 by_cases c : o = 0 ∨ o = 1 ∨ o = 2 ∨ o = 3 ∨ o = 4 ∨ o = 5
 ·rw [if_pos c, if_pos c]; rfl
 rw [if_neg c, if_neg c]
 by_cases c : o = 6 ∨ o = 7 ∨ o = 8 ∨ o = 9 ∨ o = 10 ∨ o = 19 ∨ o = 20 ∨ o = 23
 ·rw [if_pos c, if_pos c]; rfl
 rw [if_neg c, if_neg c]
 by_cases c : o = 11 ∨ o = 12 ∨ o = 13 ∨ o = 14 ∨ o = 15 ∨ o = 16 ∨ o = 17 ∨ o = 18 ∨ o = 21 ∨ o = 22
 ·rw [if_pos c, if_pos c]; rfl
 rw [if_neg c, if_neg c]
/-- Is a token one of letters alone? -/
def plainB (o : Int) : Bool := decide (o = 0 ∨ o = 1 ∨ o = 2 ∨ o = 6 ∨ o = 11 ∨ o = 12 ∨ o = 13 ∨ o = 14)
/-- May a token take these parts (as many as it takes)? -/
def fitsB (o : Int) (a : List Pt) : Bool :=
 if o = 17 ∨ o = 18 then (match a with | x :: y :: _ => x.f0 && !y.f0 | _ => false)
 else if o = 21 ∨ o = 22 then (match a with | x :: y :: _ => x.f0 && y.f0 | _ => false)
 else if o = 23 then (match a with | x :: _ => x.f0 | _ => false)
 else if o = 19 then (match a with | x :: _ => !x.f0 && x.f1 | _ => false)
 else !(a.any fun x => x.f0)
theorem fits_now {o p : Int} {n : Nat} (h : takesN o p = some n) {a : List Pt} (ha : a.length = n) : term_fits.f o a = some (fitsB o a) := by
 have hl : a.length ≤ 4611686018427387904 := by have := takesN_le h; omega
 unfold takesN at h
 rw [if_neg (by intro c; rw [if_pos c] at h; cases h)] at h
 unfold term_fits.f fitsB
 by_cases k1 : o = 17 ∨ o = 18
 ·have : n = 2 := by
   rw [if_neg (by omega), if_neg (by omega), if_pos (by omega)] at h
   exact (Option.some.inj h).symm
  subst this
  rw [if_pos k1, if_pos k1]
  match a, ha with
  | [x, y], _ => rfl
 rw [if_neg k1, if_neg k1]
 by_cases k2 : o = 21 ∨ o = 22
 ·have : n = 2 := by
   rw [if_neg (by omega), if_neg (by omega), if_pos (by omega)] at h
   exact (Option.some.inj h).symm
  subst this
  rw [if_pos k2, if_pos k2]
  match a, ha with
  | [x, y], _ => rfl
 rw [if_neg k2, if_neg k2]
 by_cases k3 : o = 23
 ·have : n = 1 := by
   rw [if_neg (by omega), if_pos (by omega)] at h
   exact (Option.some.inj h).symm
  subst this
  rw [if_pos k3, if_pos k3]
  match a, ha with
  | [x], _ => rfl
 rw [if_neg k3, if_neg k3]
 by_cases k4 : o = 19
 ·have : n = 1 := by
   rw [if_neg (by omega), if_pos (by omega)] at h
   exact (Option.some.inj h).symm
  subst this
  rw [if_pos k4, if_pos k4]
  match a, ha with
  | [x], _ => rfl
 rw [if_neg k4, if_neg k4, if_pos hl]
/-- The part that a token puts, of these. -/
def mk (o : Int) (i : Int) (a : List Pt) : Pt :=
 ⟨decide (o ≥ 19), plainB o && a.all (fun x => x.f1), a.foldl (fun d x => max d (x.f2 + 1)) 1, (a.head?.map fun x => x.f3).getD i⟩
/-- One token: the part that it puts on the stack, and what of the stack stays. -/
def step (i : Nat) (st : List Pt) (t : Tk) : Option (List Pt × Pt) :=
 (takesN t.f0 t.f1).bind fun n =>
  if n ≤ st.length then (if fitsB t.f0 (st.drop (st.length - n)) = true then some (st.take (st.length - n), mk t.f0 i (st.drop (st.length - n))) else none) else none
/-- The run over tokens, from the place i on, with the parts so far and the stack. -/
def run : Nat → List Pt → List Pt → List Tk → Option (List Pt × List Pt)
 | _, all, st, [] => some (all, st)
 | i, all, st, t :: ts => (step i st t).bind fun q => run (i + 1) (all ++ [q.2]) (q.1 ++ [q.2]) ts
theorem run_append (ts us : List Tk) : ∀ i all st, run i all st (ts ++ us) = (run i all st ts).bind fun q => run (i + ts.length) q.1 q.2 us := by
 induction ts with
 | nil => intro i all st; simp [run]
 | cons t ts ih =>
  intro i all st
  rw [List.cons_append, run, run]
  cases h : step i st t with
  | none => rfl
  | some q =>
   simp only [Option.bind_some]
   rw [ih, List.length_cons, show i + 1 + ts.length = i + (ts.length + 1) by omega]
/-- A part whose block begins d later. -/
def later (d : Int) (p : Pt) : Pt := ⟨p.f0, p.f1, p.f2, p.f3 + d⟩
theorem step_some {i : Nat} {st : List Pt} {t : Tk} {q : List Pt × Pt} (h : step i st t = some q) :
  ∃ n, takesN t.f0 t.f1 = some n ∧ n ≤ st.length ∧ fitsB t.f0 (st.drop (st.length - n)) = true ∧ q = (st.take (st.length - n), mk t.f0 i (st.drop (st.length - n))) := by
 unfold step at h
 cases hn : takesN t.f0 t.f1 with
 | none => rw [hn] at h; cases h
 | some n =>
  rw [hn] at h
  simp only [Option.bind_some] at h
  by_cases hl : n ≤ st.length
  ·rw [if_pos hl] at h
   by_cases hf : fitsB t.f0 (st.drop (st.length - n)) = true
   ·rw [if_pos hf] at h
    exact ⟨n, rfl, hl, hf, (Option.some.inj h).symm⟩
   ·rw [if_neg hf] at h; cases h
  ·rw [if_neg hl] at h; cases h
theorem step_of {i : Nat} {st : List Pt} {t : Tk} {n : Nat} (hn : takesN t.f0 t.f1 = some n) (hl : n ≤ st.length) (hf : fitsB t.f0 (st.drop (st.length - n)) = true) :
  step i st t = some (st.take (st.length - n), mk t.f0 i (st.drop (st.length - n))) := by
 unfold step
 rw [hn]
 simp only [Option.bind_some]
 rw [if_pos hl, if_pos hf]
/-- What a run adds to the parts. -/
theorem run_all (ts : List Tk) : ∀ i all st r, run i all st ts = some r → ∃ R, r.1 = all ++ R ∧ R.length = ts.length := by
 induction ts with
 | nil => intro i all st r h; rw [run] at h; obtain rfl := Option.some.inj h; exact ⟨[], by simp, rfl⟩
 | cons t ts ih =>
  intro i all st r h
  rw [run] at h
  cases hs : step i st t with
  | none => rw [hs] at h; cases h
  | some q =>
   rw [hs] at h
   obtain ⟨R, e, hl⟩ := ih _ _ _ r h
   exact ⟨q.2 :: R, by rw [e]; simp, by simp [hl]⟩
theorem run_snoc {ts : List Tk} {t : Tk} {i : Nat} {r : List Pt × List Pt} (h : run i [] [] (ts ++ [t]) = some r) : ∃ q0 q, run i [] [] ts = some q0 ∧ step (i + ts.length) q0.2 t = some q ∧ r = (q0.1 ++ [q.2], q.1 ++ [q.2]) := by
 rw [run_append] at h
 cases h0 : run i [] [] ts with
 | none => rw [h0] at h; cases h
 | some q0 =>
  rw [h0] at h
  simp only [Option.bind_some] at h
  rw [run] at h
  cases hs : step (i + ts.length) q0.2 t with
  | none => rw [hs] at h; cases h
  | some q =>
   rw [hs] at h
   exact ⟨q0, q, rfl, hs, (Option.some.inj h).symm⟩
theorem fold_max (a : List Pt) : ∀ z : Int, z ≤ a.foldl (fun d x => max d (x.f2 + 1)) z ∧ ∀ x ∈ a, x.f2 + 1 ≤ a.foldl (fun d x => max d (x.f2 + 1)) z := by
 induction a with
 | nil => intro z; exact ⟨Int.le_refl _, fun _ h => by cases h⟩
 | cons y a ih =>
  intro z
  have h := ih (max z (y.f2 + 1))
  rw [List.foldl_cons]
  refine ⟨by have := h.1; omega, ?_⟩
  intro x hx
  rcases List.mem_cons.1 hx with rfl | hx
  ·have := h.1; omega
  ·exact h.2 x hx
theorem fold_bound (a : List Pt) : ∀ z m : Int, z ≤ m → (∀ x ∈ a, x.f2 + 1 ≤ m) → a.foldl (fun d x => max d (x.f2 + 1)) z ≤ m := by
 induction a with
 | nil => intro z m h _; exact h
 | cons y a ih =>
  intro z m h ha
  rw [List.foldl_cons]
  refine ih _ m ?_ fun x hx => ha x (List.mem_cons_of_mem _ hx)
  have := ha y List.mem_cons_self
  omega
/-- No part is nested deeper than one that is left. -/
theorem run_deep (ts : List Tk) : ∀ (i : Nat) (all st : List Pt) (r : List Pt × List Pt), run i all st ts = some r → (∀ p ∈ all, ∃ q ∈ st, p.f2 ≤ q.f2) → ∀ p ∈ r.1, ∃ q ∈ r.2, p.f2 ≤ q.f2 := by
 induction ts with
 | nil => intro i all st r h ha; rw [run] at h; obtain rfl := Option.some.inj h; exact ha
 | cons t ts ih =>
  intro i all st r h ha
  rw [run] at h
  cases he : step i st t with
  | none => rw [he] at h; cases h
  | some q =>
   rw [he] at h
   obtain ⟨n, hn, hl, hf, rfl⟩ := step_some he
   refine ih _ _ _ r h ?_
   intro p hp
   rcases List.mem_append.1 hp with hp | hp
   ·obtain ⟨x, hx, hle⟩ := ha p hp
    rw [← List.take_append_drop (st.length - n) st] at hx
    rcases List.mem_append.1 hx with hx | hx
    ·exact ⟨x, List.mem_append_left _ hx, hle⟩
    ·refine ⟨_, List.mem_append_right _ List.mem_cons_self, ?_⟩
     have h2 : x.f2 + 1 ≤ (mk t.f0 i (st.drop (st.length - n))).f2 := (fold_max _ 1).2 x hx
     simp only
     omega
   ·rw [List.mem_singleton.1 hp]
    exact ⟨_, List.mem_append_right _ List.mem_cons_self, Int.le_refl _⟩
end Go.Proofs.YtaogoabnidbbpaaGreatDoor.PText.Trm
namespace Go.Proofs.YtaogoabnidbbpaaGreatDoor.PText
open Go.RowKit Go.Proofs.YtaogoabnidbbpaaGreatDoorW.PrintWords Go.Proofs.YtaogoabnidbbpaaGreatDoorW.PrintLast Go.Proofs.YtaogoabnidbbpaaGreatDoorW.PrintMore
set_option linter.unusedVariables false
set_option linter.unusedSimpArgs false
theorem plain3_calls (a0 : Int) (w : World) : Calls Tryz.prog 56 #[.int .u8 a0] w fun e w' => e = .returned (.bool (Trm.plainB a0)) ∧ Drawn0 w w' := by
 have hc : a0 = 0 ∨ a0 = 1 ∨ a0 = 2 ∨ a0 = 6 ∨ a0 = 11 ∨ a0 = 12 ∨ a0 = 13 ∨ a0 = 14 ∨ (a0 ≠ 0 ∧ a0 ≠ 1 ∧ a0 ≠ 2 ∧ a0 ≠ 6 ∧ a0 ≠ 11 ∧ a0 ≠ 12 ∧ a0 ≠ 13 ∧ a0 ≠ 14) := by omega
 rcases hc with rfl | rfl | rfl | rfl | rfl | rfl | rfl | rfl | ⟨h0, h1, h2, h3, h4, h5, h6, h7⟩
 rotate_right
 ·rw [show Trm.plainB a0 = false from decide_eq_false (by omega)]
  replace h0 : (a0 == 0) = false := beq_eq_false_iff_ne.2 h0
  replace h1 : (a0 == 1) = false := beq_eq_false_iff_ne.2 h1
  replace h2 : (a0 == 2) = false := beq_eq_false_iff_ne.2 h2
  replace h3 : (a0 == 6) = false := beq_eq_false_iff_ne.2 h3
  replace h4 : (a0 == 11) = false := beq_eq_false_iff_ne.2 h4
  replace h5 : (a0 == 12) = false := beq_eq_false_iff_ne.2 h5
  replace h6 : (a0 == 13) = false := beq_eq_false_iff_ne.2 h6
  replace h7 : (a0 == 14) = false := beq_eq_false_iff_ne.2 h7
  go_enter Tryz.func56, Tryz.ntmps56
  go_wp2
  go_ret
  exact ⟨rfl, by repeat (first | exact Drawn0.refl _ | apply Drawn0.step)⟩
 all_goals
  go_enter Tryz.func56, Tryz.ntmps56
  go_wp2
  go_ret
  exact ⟨rfl, by repeat (first | exact Drawn0.refl _ | apply Drawn0.step)⟩
set_option maxHeartbeats 8000000 in
theorem takes3_calls (o p : Int) (w : World) :
  Calls Tryz.prog 54 #[.agg #[.int .u8 o, .int .u8 p]] w fun e w' => e = .returned (.int .i64 (Trm.takesI o p)) ∧ Below w.heap.size w w' := by
 have fin : ∀ b : Bool, (o == 2) = b → ∀ c : Bool, (p == 0) = c → ∀ d : Bool, decide (8 ≤ p) = d → ((!b && !c) || d) = true → Calls Tryz.prog 54 #[.agg #[.int .u8 o, .int .u8 p]] w fun e w' => e = .returned (.int .i64 (-1)) ∧ Below w.heap.size w w' := by
  intro b hb c hc d hd h
  have hb2 : (o != 2) = !b := by rw [bne, hb]
  have hc2 : (p != 0) = !c := by rw [bne, hc]
  cases b <;> cases c <;> cases d <;> first | exact absurd h (by decide) | skip
  all_goals
   clear h
   go_enter Tryz.func54, Tryz.ntmps54
   go_wp2
   go_ret
   exact ⟨rfl, by repeat (first | exact Below.refl _ _ | apply below_alloc | apply pw_below_drewN | apply below_drew1)⟩
 by_cases hm : (¬ o = 2 ∧ ¬ p = 0) ∨ p ≥ 8
 ·rw [Trm.takesI_eq, if_pos hm]
  refine fin _ rfl _ rfl _ rfl ?_
  rcases hm with ⟨h1, h2⟩ | h3
  ·rw [beq_eq_false_iff_ne.2 h1, beq_eq_false_iff_ne.2 h2]; rfl
  ·rw [decide_eq_true h3, Bool.or_true]
 have h8 : decide (8 ≤ p) = false := decide_eq_false (by omega)
 by_cases h2 : o = 2
 ·subst h2
  rw [Trm.takesI_eq, if_neg hm]
  clear hm
  go_enter Tryz.func54, Tryz.ntmps54
  go_wp2
  go_ret
  exact ⟨rfl, by repeat (first | exact Below.refl _ _ | apply below_alloc | apply pw_below_drewN | apply below_drew1)⟩
 obtain rfl : p = 0 := by omega
 have hc : o = 0 ∨ o = 1 ∨ o = 3 ∨ o = 4 ∨ o = 5 ∨ o = 6 ∨ o = 7 ∨ o = 8 ∨ o = 9 ∨ o = 10 ∨ o = 11 ∨ o = 12 ∨ o = 13 ∨ o = 14 ∨ o = 15 ∨ o = 16 ∨ o = 17 ∨ o = 18 ∨ o = 19 ∨ o = 20 ∨ o = 21 ∨ o = 22 ∨ o = 23 ∨ (o < 0 ∨ 23 < o) := by omega
 rw [Trm.takesI_eq, if_neg hm]
 clear hm
 rcases hc with rfl | rfl | rfl | rfl | rfl | rfl | rfl | rfl | rfl | rfl | rfl | rfl | rfl | rfl | rfl | rfl | rfl | rfl | rfl | rfl | rfl | rfl | rfl | hc
 rotate_right
 ·rw [if_neg (by omega), if_neg (by omega), if_neg (by omega)]
  have e : ∀ k : Int, 0 ≤ k → k ≤ 23 → (o == k) = false := fun k h0 h1 => beq_eq_false_iff_ne.2 (by omega)
  have b2 : (o != 2) = true := bne_iff_ne.2 h2
  have t0 := e 0 (by omega) (by omega); have t1 := e 1 (by omega) (by omega); have t2 := e 2 (by omega) (by omega); have t3 := e 3 (by omega) (by omega); have t4 := e 4 (by omega) (by omega); have t5 := e 5 (by omega) (by omega)
  have t6 := e 6 (by omega) (by omega); have t7 := e 7 (by omega) (by omega); have t8 := e 8 (by omega) (by omega); have t9 := e 9 (by omega) (by omega); have t10 := e 10 (by omega) (by omega); have t11 := e 11 (by omega) (by omega)
  have t12 := e 12 (by omega) (by omega); have t13 := e 13 (by omega) (by omega); have t14 := e 14 (by omega) (by omega); have t15 := e 15 (by omega) (by omega); have t16 := e 16 (by omega) (by omega); have t17 := e 17 (by omega) (by omega)
  have t18 := e 18 (by omega) (by omega); have t19 := e 19 (by omega) (by omega); have t20 := e 20 (by omega) (by omega); have t21 := e 21 (by omega) (by omega); have t22 := e 22 (by omega) (by omega); have t23 := e 23 (by omega) (by omega)
  clear e hc h2
  go_enter Tryz.func54, Tryz.ntmps54
  go_wp2
  go_ret
  exact ⟨rfl, by repeat (first | exact Below.refl _ _ | apply below_alloc | apply pw_below_drewN | apply below_drew1)⟩
 all_goals
  clear h2
  go_enter Tryz.func54, Tryz.ntmps54
  go_wp2
  go_ret
  exact ⟨rfl, by repeat (first | exact Below.refl _ _ | apply below_alloc | apply pw_below_drewN | apply below_drew1)⟩
end Go.Proofs.YtaogoabnidbbpaaGreatDoor.PText
namespace Go.Proofs.YtaogoabnidbbpaaGreatDoor.PText
open Go.RowKit Go.Proofs.YtaogoabnidbbpaaGreatDoorW.PrintWords Go.Proofs.YtaogoabnidbbpaaGreatDoorW.PrintLast Go.Proofs.YtaogoabnidbbpaaGreatDoorW.PrintMore Go.Proofs.YtaogoabnidbbpaaGreatDoorW.Aid
set_option linter.unusedVariables false
set_option linter.unusedSimpArgs false
attribute [local go_sem] max2_int
abbrev RQ (w : World) (b : Nat) (v : Value) (l : List Trm.Pt) : Prop := Kd.R k77 77 w b (fun _ => True) v l
theorem cellW {w0 W : World} {p : Addr} {v : Value} (h : w0.cell? p = some v) (hb : Below w0.heap.size w0 W) : W.cell? p = some v := (hb.cell (World.block_lt_of_cell? w0 _ h)).trans h
theorem blkW {X w3 : World} {g : Nat} {o : Obj} (hq : Below X.heap.size X w3) (h : X.heap[g]? = some o) : w3.heap[g]? = some o := (hq.block g (blk_lt h)).trans h
theorem tokW {W : World} {A : Option Addr} {toks : List Trm.Tk} (h : Kd.C k41 W A toks.length toks) (i : Nat) (hi : i < toks.length) : ∃ ad, A = some ad ∧ W.cell? (ad.add (i * 2)) = some (.int .u8 toks[i].f0) ∧ W.cell? ⟨(ad.add (i * 2)).block, (ad.add (i * 2)).off + 1, none⟩ = some (.int .u8 toks[i].f1) := by
 obtain ⟨ad, e1, h0, h1⟩ := at_T41 h (i : Int) (by omega) (by omega)
 have hx : rd_T41 toks (i : Int) = toks[i] := by unfold rd_T41; rw [Int.toNat_natCast, List.getD_eq_getElem?_getD, List.getElem?_eq_getElem hi]; rfl
 rw [Int.toNat_natCast, hx] at h0 h1
 exact ⟨ad, e1, h0, h1⟩
theorem partW {W : World} {A : Option Addr} {l : List Trm.Pt} (h : Kd.C k77 W A l.length l) (i : Nat) (hi : i < l.length) : ∃ ad, A = some ad ∧ W.cell? (ad.add (i * 4)) = some (.bool l[i].f0) ∧ W.cell? ⟨(ad.add (i * 4)).block, (ad.add (i * 4)).off + 1, none⟩ = some (.bool l[i].f1) ∧ W.cell? ⟨(ad.add (i * 4)).block, (ad.add (i * 4)).off + 2, none⟩ = some (.int .i64 l[i].f2) ∧ W.cell? ⟨(ad.add (i * 4)).block, (ad.add (i * 4)).off + 3, none⟩ = some (.int .i64 l[i].f3) := by
 obtain ⟨ad, e1, h0, h1, h2, h3⟩ := at_T77 h (i : Int) (by omega) (by omega)
 have hx : rd_T77 l (i : Int) = l[i] := by unfold rd_T77; rw [Int.toNat_natCast, List.getD_eq_getElem?_getD, List.getElem?_eq_getElem hi]; rfl
 rw [Int.toNat_natCast, hx] at h0 h1 h2 h3
 exact ⟨ad, e1, h0, h1, h2, h3⟩
/-- One part as a list. -/
theorem oneW {W : World} {g : Nat} {p : Trm.Pt} (h : W.heap[g]? = some (.cells #[.bool p.f0, .bool p.f1, .int .i64 p.f2, .int .i64 p.f3] 77 (0, 0))) : Kd.C k77 W (some ⟨g, 0, none⟩) 1 [p] := by
 refine ⟨rfl, by omega, fun _ => ⟨_, rfl, fun j q hj => ?_⟩⟩
 have hj0 : j = 0 := by have := (List.getElem?_eq_some_iff.1 hj).1; simp at this; exact this
 subst hj0
 have hp : p = q := by simpa using hj
 subst hp
 refine ⟨[.bool p.f0, .bool p.f1, .int .i64 p.f2, .int .i64 p.f3], rfl, k77_mk _ _, fun i u hu => ?_⟩
 have := blk_cell h i
 rw [show ((⟨g, 0, none⟩ : Addr).add (0 * k77.sz + i)) = ⟨g, i, none⟩ by simp [Addr.add]; omega]
 rw [this]
 simpa using hu
section
variable {ops : Array Oper} {o : Oper} {act : Act} {Q : Exit → Act → World → Prop} {Kc : Act → World → Prop} {rest : List Oper}
theorem rq_append {w' : World} {b : Nat} {v : Value} {l : List Trm.Pt} (p : Trm.Pt) (hgd : o.guard = none) (s x : Operand) (ho : o.op = .call { callee := .builtin .append, args := #[s, x], argTypes := #[75, 75] }) (hs : act.eval s = v) {g0 : Nat} (hx : act.eval x = .slice (some ⟨g0, 0, none⟩) 1 1)
  (H : RQ w' b v l) (hb : b ≤ w'.heap.size) (hl : l.length ≤ 1000000) (k : ∀ v1 w1, RQ w1 b v1 (l ++ [p]) → w'.grownBy w1 v.ownBlock → (v1.ownBlock = v.ownBlock ∨ ∃ g, v1.ownBlock = some g ∧ w'.heap.size ≤ g) → wpList Tryz.prog ops Q rest (act.put o.dst v1) w1) (hg0 : g0 = w'.heap.size := by first | rfl | simp) : wpList Tryz.prog ops Q (o :: rest) act (w'.alloc (.cells #[.bool p.f0, .bool p.f1, .int .i64 p.f2, .int .i64 p.f3] 77)) := by
 subst hg0
 exact Kd.R_append k77 (w0 := w') b hgd s x 75 77 (.agg #[.bool false, .bool false, .int .i64 0, .int .i64 0]) 24 ho Tryz.underlying75 info77 rfl (by decide) (by omega) v l p [.bool p.f0, .bool p.f1, .int .i64 p.f2, .int .i64 p.f3] (fun _ => True) (fun _ => False) hs hx (k77_mkM _ _ _ p) (fun _ hk => hk.elim) (fun _ _ => trivial) H (Below.refl _ _) hb (by omega) (fun v1 w1 hr _ hg hat => k v1 w1 hr hg hat)
theorem rq_step {w' : World} {b : Nat} {v : Value} {l : List Trm.Pt} (p : Trm.Pt) (hw : Region.wanted o (yielded ops act.tmps) = true) (s x : Operand) (ho : o.op = .call { callee := .builtin .append, args := #[s, x], argTypes := #[75, 75] }) (hs : act.eval s = v) {g0 : Nat} (hx : act.eval x = .slice (some ⟨g0, 0, none⟩) 1 1)
  (H : RQ w' b v l) (hB : w'.heap[g0]? = some (.cells #[.bool p.f0, .bool p.f1, .int .i64 p.f2, .int .i64 p.f3] 77 (0, 0))) (hb : b ≤ w'.heap.size) (hl : l.length ≤ 1000000) (k : ∀ v1 w1, RQ w1 b v1 (l ++ [p]) → w'.grownBy w1 v.ownBlock → (v1.ownBlock = v.ownBlock ∨ ∃ g, v1.ownBlock = some g ∧ w'.heap.size ≤ g) → Kc (act.put o.dst v1) w1) : if Region.wanted o (yielded ops act.tmps) = true then Oper.wp Tryz.prog o act w' Kc Q else Kc (act.put o.dst undef) w' :=
 Kd.R_append_rows_step k77 (w0 := w') b hw s x 75 77 (.agg #[.bool false, .bool false, .int .i64 0, .int .i64 0]) 24 ho Tryz.underlying75 info77 rfl (by decide) (by omega) v l [p] (some ⟨g0, 0, none⟩) 1 1 (fun _ => True) (fun _ => False) hs hx H (oneW hB) (fun x cs h => by obtain rfl := k77_open h; exact k77_mkM _ _ _ x) (fun _ hk => hk.elim) (fun _ _ => trivial) (Below.refl _ _) hb (by omega) (fun v1 w1 hr _ hg hat => k v1 w1 hr hg hat)
end
theorem rq_base {w : World} {b : Nat} {v : Value} {l : List Trm.Pt} (h : RQ w b v l) (k : Nat) (hk : v.ownBlock = some k) : b ≤ k := by
 obtain ⟨inner, ho⟩ := Kd.R_own h
 exact own_base ho k hk
theorem rq_lt {w : World} {b : Nat} {v : Value} {l : List Trm.Pt} (h : RQ w b v l) (k : Nat) (hk : v.ownBlock = some k) : k < w.heap.size := by
 obtain ⟨inner, ho⟩ := Kd.R_own h
 exact own_lt ho k hk
theorem stepW (i : Nat) (st : List Trm.Pt) (t : Trm.Tk) : (Trm.step i st t = none ∧ (Trm.takesN t.f0 t.f1 = none ∨ ∃ n, Trm.takesN t.f0 t.f1 = some n ∧ (¬ n ≤ st.length ∨ n ≤ st.length ∧ Trm.fitsB t.f0 (st.drop (st.length - n)) = false))) ∨
  ∃ n, Trm.takesN t.f0 t.f1 = some n ∧ n ≤ st.length ∧ Trm.fitsB t.f0 (st.drop (st.length - n)) = true ∧ Trm.step i st t = some (st.take (st.length - n), Trm.mk t.f0 i (st.drop (st.length - n))) := by
 cases hs : Trm.step i st t with
 | some q =>
  obtain ⟨n, hn, hl, hf, rfl⟩ := Trm.step_some hs
  exact .inr ⟨n, hn, hl, hf, rfl⟩
 | none =>
  refine .inl ⟨rfl, ?_⟩
  cases hn : Trm.takesN t.f0 t.f1 with
  | none => exact .inl rfl
  | some n =>
   refine .inr ⟨n, rfl, ?_⟩
   by_cases hl : n ≤ st.length
   ·refine .inr ⟨hl, ?_⟩
    cases hf : Trm.fitsB t.f0 (st.drop (st.length - n)) with
    | false => rfl
    | true => rw [Trm.step_of hn hl hf] at hs; cases hs
   ·exact .inl hl
def RwJ (w : World) (l : List Trm.Tk) (kq : Nat) (v5 v6 v16 : Value) (w' : World) : Prop := ∃ (i : Nat) (al st : List Trm.Pt), v16 = .int .i64 (i : Int) ∧ i + kq = l.length ∧ RQ w' (w.heap.size + 1) v5 al ∧ RQ w' (w.heap.size + 1) v6 st ∧ (∀ k, v5.ownBlock = some k → some k ≠ v6.ownBlock) ∧ Below w.heap.size w w' ∧ Trm.run i al st (l.drop i) = Trm.run 0 [] [] l ∧ al.length ≤ i ∧ st.length ≤ i ∧ (∀ p ∈ st, 1 ≤ p.f2 ∧ p.f2 ≤ (i : Int)) ∧ w'.heap[w.heap.size]? = some (.cells #[.bool false, .bool false, .int .i64 0, .int .i64 0] 77 (0, 0))
/-- What read tells that is looked at: the part that is left, and whether there is one. -/
def lastW (l : List Trm.Tk) : Option Trm.Pt := match Trm.run 0 [] [] l with | some (_, [p]) => some p | _ => none
def RwPost (w : World) (l : List Trm.Tk) (e : Ending) (w' : World) : Prop := ∃ v : Value, e = .returned (.tuple #[v, .agg (match lastW l with | some p => #[.bool p.f0, .bool p.f1, .int .i64 p.f2, .int .i64 p.f3] | none => #[.bool false, .bool false, .int .i64 0, .int .i64 0]), .bool (lastW l).isSome]) ∧ Below w.heap.size w w'
theorem rw_none {w W : World} {l : List Trm.Tk} {v : Value} (h : lastW l = none) (hb : Below w.heap.size w W) : RwPost w l (.returned (.tuple #[v, .agg #[.bool false, .bool false, .int .i64 0, .int .i64 0], .bool false])) W := by
 unfold RwPost
 rw [h]
 exact ⟨v, rfl, hb⟩
theorem rw_some {w W : World} {l : List Trm.Tk} {v : Value} {p : Trm.Pt} (h : lastW l = some p) (hb : Below w.heap.size w W) : RwPost w l (.returned (.tuple #[v, .agg #[.bool p.f0, .bool p.f1, .int .i64 p.f2, .int .i64 p.f3], .bool true])) W := by
 unfold RwPost
 rw [h]
 exact ⟨v, rfl, hb⟩
theorem last_none {l : List Trm.Tk} (h : none = Trm.run 0 [] [] l) : lastW l = none := by unfold lastW; rw [← h]
theorem grownW {w X Z Y : World} {va vb v1 : Value} {la lb : List Trm.Pt} (Ra : RQ X (w.heap.size + 1) va la) (Rb : RQ X (w.heap.size + 1) vb lb) (hap : ∀ k, va.ownBlock = some k → some k ≠ vb.ownBlock) (hb : Below w.heap.size w X) (hz : Below X.heap.size X Z) (hg : Z.grownBy Y va.ownBlock) (hat : v1.ownBlock = va.ownBlock ∨ ∃ g, v1.ownBlock = some g ∧ Z.heap.size ≤ g) :
  RQ Y (w.heap.size + 1) vb lb ∧ Below w.heap.size w Y ∧ (∀ (o : Obj) (g : Nat), X.heap[g]? = some o → (∀ k, va.ownBlock = some k → k ≠ g) → Y.heap[g]? = some o) ∧ ∀ k, v1.ownBlock = some k → some k ≠ vb.ownBlock := by
 refine ⟨Kd.R_grown2 (Kd.R_below Rb hz) rfl hg hap, pw_below_grown (below_step hb hz) _ (below_step hb hz).size hg (fun k hk => by have := rq_base Ra k hk; omega), fun o g h hn => blk_grown (blkW hz h) hg (fun e => hn _ e.symm rfl), fun k hk e => ?_⟩
 rcases hat with hat | ⟨g, h1, h2⟩
 ·exact hap k (hat ▸ hk) e
 ·rw [hk] at h1
  cases h1
  have := rq_lt Rb _ e.symm
  have h3 := hz.size
  omega
set_option maxHeartbeats 16000000 in
set_option maxRecDepth 100000 in
theorem readw_calls (A : Option Addr) (c : Nat) (l : List Trm.Tk) (w : World) (hr : Kd.C k41 w A l.length l) (hl : l.length ≤ 512) :
  Calls Tryz.prog 37 #[.slice A l.length c] w (RwPost w l) := by
 have HR := Aside0.mk hr
 have HL := Aside0.mk hl
 clear hr hl
 go_enter Tryz.func37, Tryz.ntmps37
 go_wp2
 go_loopg [5, 6, 16] l.length (fun kq v5 v6 v16 w' => ∃ (vo vs vi : Value) (wq : World), vo = v5 ∧ vs = v6 ∧ vi = v16 ∧ wq = w' ∧ Aside0 (RwJ w l kq vo vs vi wq))
 case atStart => exact ⟨_, _, _, _, rfl, rfl, rfl, rfl, ⟨0, [], [], rfl, by omega, Kd.R_nil _ _ _ _ _, Kd.R_nil _ _ _ _ _, (fun k h => by cases h), below_alloc (Below.refl _ _) _, rfl, Nat.le_refl _, Nat.le_refl _, (fun p h => absurd h List.not_mem_nil), blk_new _ _⟩⟩
 case round =>
  obtain ⟨vo, vs, vi, wq, h5, h6, h7, hwq, hrel⟩ := hrel
  subst h5
  subst h6
  subst hwq
  obtain ⟨i, al, st, hv, hi, R5, R6, hap, hb, hrun, hal, hst, hdp, hbk⟩ := hrel.out
  subst hv
  subst h7
  obtain ⟨A5, c5, rfl⟩ := Kd.R_slice R5
  obtain ⟨A6, c6, rfl⟩ := Kd.R_slice R6
  have R5 := Aside0.mk R5
  have R6 := Aside0.mk R6
  have HAP := Aside0.mk hap
  have HB := Aside0.mk hb
  have HD := Aside0.mk hdp
  have BK := Aside0.mk hbk
  have hlt := blk_lt hbk
  have c0wq : wq.cell? ⟨w.heap.size, 0, none⟩ = some (.bool false) := (blk_cell BK.out 0).trans rfl
  have z0wq := blk_frozen BK.out 0
  have c1wq : wq.cell? ⟨w.heap.size, 1, none⟩ = some (.bool false) := (blk_cell BK.out 1).trans rfl
  have z1wq := blk_frozen BK.out 1
  have c2wq : wq.cell? ⟨w.heap.size, 2, none⟩ = some (.int .i64 0) := (blk_cell BK.out 2).trans rfl
  have z2wq := blk_frozen BK.out 2
  have c3wq : wq.cell? ⟨w.heap.size, 3, none⟩ = some (.int .i64 0) := (blk_cell BK.out 3).trans rfl
  have z3wq := blk_frozen BK.out 3
  clear hrel hap hb hdp hbk
  cases gk with
  | zero =>
   have hil : i = l.length := by omega
   subst hil
   rw [List.drop_length, Trm.run] at hrun
   have e1 : decide ((l.length : Int) < (l.length : Int)) = false := decide_eq_false (by omega)
   have e2 : decide (l.length < l.length) = false := decide_eq_false (by omega)
   by_cases h1 : st.length = 1
   ·match st, h1 with
    | [p], _ =>
     have HSO := Aside0.mk (show lastW l = some p by unfold lastW; rw [← hrun])
     obtain ⟨ad, ead, y0, y1, y2, y3⟩ := partW (Kd.R_reads' R6.out).2.2 0 (by simp)
     subst ead
     rw [show 0 * 4 = 0 from rfl, Addr.add_zero'] at y0 y1 y2 y3
     replace y0 : wq.cell? ad = some (.bool p.f0) := y0
     replace y1 : wq.cell? ⟨ad.block, ad.off + 1, none⟩ = some (.bool p.f1) := y1
     replace y2 : wq.cell? ⟨ad.block, ad.off + 2, none⟩ = some (.int .i64 p.f2) := y2
     replace y3 : wq.cell? ⟨ad.block, ad.off + 3, none⟩ = some (.int .i64 p.f3) := y3
     have hne : ad.block ≠ w.heap.size := by have := rq_base R6.out ad.block rfl; omega
     clear hrun hal hst hi
     go_wp2_with fail
     go_region
     all_goals go_wp2_with fail
     all_goals refine bodyPost_ret (results_list (rs := [.tmp 2, .cell 3 77, .tmp 4]) rfl (by simp) (.tmp (.cell w.heap.size 77 #[.bool p.f0, .bool p.f1, .int .i64 p.f2, .int .i64 p.f3] (0, 0) _ rfl (by (with_reducible repeat (first | refine blk_drewN ?_ _ | refine blk_drew ?_ | refine blk_alloc ?_ _)); exact blk_put (blk_put (blk_put (blk_put BK.out 0 _ rfl) 1 _ rfl) 2 _ rfl) 3 _ rfl) Tryz.underlying77 rfl (by kernel_rfl) (.tmp .nil)))) rfl ?_
     all_goals exact rw_some HSO.out (by repeat (first | exact HB.out | apply below_alloc | apply pw_below_drewN | apply below_drew1 | refine below_set ?_ (Nat.le_refl _)))
   ·have HNO := Aside0.mk (show lastW l = none by
     unfold lastW
     rw [← hrun]
     match st, h1 with
     | [], _ => rfl
     | _ :: _ :: _, _ => rfl
     | [p], h1 => exact absurd rfl h1)
    have e3 : ((st.length : Int) == 1) = false := beq_eq_false_iff_ne.2 (by omega)
    have e4 : ((st.length : Int) != 1) = true := bne_iff_ne.2 (by omega)
    clear hrun hal hst hi h1
    go_wp2_with fail
    refine bodyPost_ret (results_list (rs := [.tmp 2, .cell 3 77, .tmp 4]) rfl (by simp) (.tmp (.cell w.heap.size 77 #[.bool false, .bool false, .int .i64 0, .int .i64 0] (0, 0) _ rfl (by (with_reducible repeat (first | refine blk_drewN ?_ _ | refine blk_drew ?_ | refine blk_alloc ?_ _)); exact blk_put (blk_put (blk_put (blk_put BK.out 0 _ rfl) 1 _ rfl) 2 _ rfl) 3 _ rfl) Tryz.underlying77 rfl (by kernel_rfl) (.tmp .nil)))) rfl ?_
    exact rw_none HNO.out (by repeat (first | exact HB.out | apply below_alloc | apply pw_below_drewN | apply below_drew1 | refine below_set ?_ (Nat.le_refl _)))
  | succ k1 =>
   have hil : i < l.length := by omega
   obtain ⟨ad, ead, y0, y1⟩ := tokW HR.out i hil
   subst ead
   replace y0 := cellW y0 HB.out
   replace y1 := cellW y1 HB.out
   rw [List.drop_eq_getElem_cons hil, Trm.run] at hrun
   obtain ⟨⟨o, p⟩, hx⟩ : ∃ x : Trm.Tk, x = l[i] := ⟨_, rfl⟩
   rw [← hx] at y0 y1 hrun
   have e1 : decide ((i : Int) < (l.length : Int)) = true := decide_eq_true (by omega)
   have e2 : decide (i < l.length) = true := decide_eq_true hil
   have p1 := eq_true (show (0 : Int) ≤ (i : Int) by omega)
   have p2 := eq_true hil
   have hw : Aside0 (wrap64 ((i : Int) + 1) = ((i + 1 : Nat) : Int)) := ⟨by have := HL.out; unfold wrap64; omega⟩
   have hT : ∀ r, Trm.takesI o p = r → ∀ W, Calls Tryz.prog 54 #[.agg #[.int .u8 o, .int .u8 p]] W fun e w' => e = .returned (.int .i64 r) ∧ Below W.heap.size W w' := fun r h W => h ▸ takes3_calls o p W
   rcases stepW i st ⟨o, p⟩ with ⟨hs, hn | ⟨n, hn, hlt2 | ⟨hle, hf⟩⟩⟩ | ⟨n, hn, hle, hf, hs⟩
   ·rw [hs] at hrun
    have HNO := Aside0.mk (last_none hrun)
    have HT := Aside0.mk (hT (-1) (by unfold Trm.takesI; rw [show Trm.takesN o p = none from hn]))
    clear hT hrun hn hal hst hi hil hx hs
    go_wp2_with (go_at_call 54; refine (HT.out _).mono ?_; rintro e w2 ⟨rfl, hq⟩; have B8 := Aside0.mk (blkW hq (blk_new wq (.cells #[.int .u8 o, .int .u8 p] 41))); have BK2 := Aside0.mk (blkW hq (blk_alloc BK.out (.cells #[.int .u8 o, .int .u8 p] 41))); have HB2 := Aside0.mk (below_step (below_alloc HB.out (.cells #[.int .u8 o, .int .u8 p] 41)) hq); have HQ : Aside0 (Below wq.heap.size wq w2) := ⟨below_step (below_alloc (Below.refl _ _) _) hq⟩; clear BK HB; have BK := BK2; have HB := HB2; clear BK2 HB2; have c0w2 : w2.cell? ⟨w.heap.size, 0, none⟩ = some (.bool false) := (blk_cell BK.out 0).trans rfl; have z0w2 := blk_frozen BK.out 0; have c1w2 : w2.cell? ⟨w.heap.size, 1, none⟩ = some (.bool false) := (blk_cell BK.out 1).trans rfl; have z1w2 := blk_frozen BK.out 1; have c2w2 : w2.cell? ⟨w.heap.size, 2, none⟩ = some (.int .i64 0) := (blk_cell BK.out 2).trans rfl; have z2w2 := blk_frozen BK.out 2; have c3w2 : w2.cell? ⟨w.heap.size, 3, none⟩ = some (.int .i64 0) := (blk_cell BK.out 3).trans rfl; have z3w2 := blk_frozen BK.out 3; have d0w2 : w2.cell? ⟨wq.heap.size, 0, none⟩ = some (.int .u8 o) := (blk_cell B8.out 0).trans rfl; have d1w2 : w2.cell? ⟨wq.heap.size, 1, none⟩ = some (.int .u8 p) := (blk_cell B8.out 1).trans rfl; clear hq y0 y1 c0wq z0wq c1wq z1wq c2wq z2wq c3wq z3wq)
    refine bodyPost_ret (results_list (rs := [.tmp 2, .cell 3 77, .tmp 4]) rfl (by simp) (.tmp (.cell w.heap.size 77 #[.bool false, .bool false, .int .i64 0, .int .i64 0] (0, 0) _ rfl (by (with_reducible repeat (first | refine blk_drewN ?_ _ | refine blk_drew ?_ | refine blk_alloc ?_ _)); exact blk_put (blk_put (blk_put (blk_put BK.out 0 _ rfl) 1 _ rfl) 2 _ rfl) 3 _ rfl) Tryz.underlying77 rfl (by kernel_rfl) (.tmp .nil)))) rfl ?_
    exact rw_none HNO.out (by repeat (first | exact HB.out | apply below_alloc | apply pw_below_drewN | apply below_drew1 | refine below_set ?_ (Nat.le_refl _)))
   ·rw [hs] at hrun
    have HNO := Aside0.mk (last_none hrun)
    have HT := Aside0.mk (hT n (by unfold Trm.takesI; rw [show Trm.takesN o p = some n from hn]))
    have e3 : decide ((n : Int) < 0) = false := decide_eq_false (by omega)
    have e4 : decide ((st.length : Int) < (n : Int)) = true := decide_eq_true (by omega)
    have e5 : decide (st.length < n) = true := decide_eq_true (by omega)
    clear hT hrun hn hal hst hi hil hx hs hlt2
    go_wp2_with (go_at_call 54; refine (HT.out _).mono ?_; rintro e w2 ⟨rfl, hq⟩; have B8 := Aside0.mk (blkW hq (blk_new wq (.cells #[.int .u8 o, .int .u8 p] 41))); have BK2 := Aside0.mk (blkW hq (blk_alloc BK.out (.cells #[.int .u8 o, .int .u8 p] 41))); have HB2 := Aside0.mk (below_step (below_alloc HB.out (.cells #[.int .u8 o, .int .u8 p] 41)) hq); have HQ : Aside0 (Below wq.heap.size wq w2) := ⟨below_step (below_alloc (Below.refl _ _) _) hq⟩; clear BK HB; have BK := BK2; have HB := HB2; clear BK2 HB2; have c0w2 : w2.cell? ⟨w.heap.size, 0, none⟩ = some (.bool false) := (blk_cell BK.out 0).trans rfl; have z0w2 := blk_frozen BK.out 0; have c1w2 : w2.cell? ⟨w.heap.size, 1, none⟩ = some (.bool false) := (blk_cell BK.out 1).trans rfl; have z1w2 := blk_frozen BK.out 1; have c2w2 : w2.cell? ⟨w.heap.size, 2, none⟩ = some (.int .i64 0) := (blk_cell BK.out 2).trans rfl; have z2w2 := blk_frozen BK.out 2; have c3w2 : w2.cell? ⟨w.heap.size, 3, none⟩ = some (.int .i64 0) := (blk_cell BK.out 3).trans rfl; have z3w2 := blk_frozen BK.out 3; have d0w2 : w2.cell? ⟨wq.heap.size, 0, none⟩ = some (.int .u8 o) := (blk_cell B8.out 0).trans rfl; have d1w2 : w2.cell? ⟨wq.heap.size, 1, none⟩ = some (.int .u8 p) := (blk_cell B8.out 1).trans rfl; clear hq y0 y1 c0wq z0wq c1wq z1wq c2wq z2wq c3wq z3wq)
    refine bodyPost_ret (results_list (rs := [.tmp 2, .cell 3 77, .tmp 4]) rfl (by simp) (.tmp (.cell w.heap.size 77 #[.bool false, .bool false, .int .i64 0, .int .i64 0] (0, 0) _ rfl (by (with_reducible repeat (first | refine blk_drewN ?_ _ | refine blk_drew ?_ | refine blk_alloc ?_ _)); exact blk_put (blk_put (blk_put (blk_put BK.out 0 _ rfl) 1 _ rfl) 2 _ rfl) 3 _ rfl) Tryz.underlying77 rfl (by kernel_rfl) (.tmp .nil)))) rfl ?_
    exact rw_none HNO.out (by repeat (first | exact HB.out | apply below_alloc | apply pw_below_drewN | apply below_drew1 | refine below_set ?_ (Nat.le_refl _)))
   ·have hn2 : n ≤ 2 := Trm.takesN_le hn
    obtain ⟨m, hm⟩ : ∃ m, m = st.length - n := ⟨_, rfl⟩
    rw [← hm] at hf
    obtain ⟨a, ha⟩ : ∃ a, a = st.drop m := ⟨_, rfl⟩
    rw [← ha] at hf
    have hla : a.length = n := by rw [ha, List.length_drop]; omega
    have HT := Aside0.mk (hT n (by unfold Trm.takesI; rw [show Trm.takesN o p = some n from hn]))
    obtain ⟨i0, hi0, _, hsz0, _⟩ := info_parts info77
    have hcut := cut_from (P := Tryz.prog) 75 77 .i64 Tryz.underlying75 hi0 4 hsz0 A6 st.length c6 (m : Int) (by omega) (by omega)
    have hC6 := Kd.C_drop (m := m) (c := c6) (Kd.R_reads' R6.out).2.2 (by omega) (Kd.R_reads' R6.out).2.1
    rw [Int.toNat_natCast] at hcut
    have hmc : n ≤ c6 - m := by have := (Kd.R_reads' R6.out).2.1; omega
    rw [← ha, hla] at hC6
    rw [show st.length - m = n by omega] at hcut
    obtain ⟨Aa, hAa⟩ : ∃ Aa, Aa = (if c6 = m then A6 else A6.map (·.add (m * 4))) := ⟨_, rfl⟩
    obtain ⟨ca, hca⟩ : ∃ ca, ca = c6 - m := ⟨_, rfl⟩
    replace hC6 : Kd.C k77 wq Aa n a := by rw [hAa]; exact hC6
    rw [← hAa, ← hca] at hcut
    rw [← hca] at hmc
    have HF : Aside0 (∀ W, Below wq.heap.size wq W → Calls Tryz.prog 55 #[.int .u8 o, .slice Aa n ca] W fun e w' => e = .returned (.bool false) ∧ Below W.heap.size W w') := ⟨fun W hW => by
     have h := term_fits.calls o Aa ca a false W (Kd.C_below (by rw [hla]; exact hC6) hW) (by rw [hla]; exact hmc) (by rw [Trm.fits_now hn hla]; exact congrArg some hf)
     rw [hla] at h
     exact h⟩
    have e3 : decide ((n : Int) < 0) = false := decide_eq_false (by omega)
    have e4 : decide ((st.length : Int) < (n : Int)) = false := decide_eq_false (by omega)
    have e5 : decide (st.length < n) = false := decide_eq_false (by omega)
    have wm : IntKind.i64.wrap ((st.length : Int) - (n : Int)) = (m : Int) := by rw [i64_w]; unfold wrap64; have := HL.out; omega
    rw [hs] at hrun
    have HNO := Aside0.mk (last_none hrun)
    clear hT hrun hn hal hst hi hil hx hs hle hf hm ha hla hi0 hsz0 hC6 hmc hAa hca hn2
    go_wp2_with (first | (go_at_call 54; refine (HT.out _).mono ?_; rintro e w2 ⟨rfl, hq⟩; have B8 := Aside0.mk (blkW hq (blk_new wq (.cells #[.int .u8 o, .int .u8 p] 41))); have BK2 := Aside0.mk (blkW hq (blk_alloc BK.out (.cells #[.int .u8 o, .int .u8 p] 41))); have HB2 := Aside0.mk (below_step (below_alloc HB.out (.cells #[.int .u8 o, .int .u8 p] 41)) hq); have HQ : Aside0 (Below wq.heap.size wq w2) := ⟨below_step (below_alloc (Below.refl _ _) _) hq⟩; clear BK HB; have BK := BK2; have HB := HB2; clear BK2 HB2; have c0w2 : w2.cell? ⟨w.heap.size, 0, none⟩ = some (.bool false) := (blk_cell BK.out 0).trans rfl; have z0w2 := blk_frozen BK.out 0; have c1w2 : w2.cell? ⟨w.heap.size, 1, none⟩ = some (.bool false) := (blk_cell BK.out 1).trans rfl; have z1w2 := blk_frozen BK.out 1; have c2w2 : w2.cell? ⟨w.heap.size, 2, none⟩ = some (.int .i64 0) := (blk_cell BK.out 2).trans rfl; have z2w2 := blk_frozen BK.out 2; have c3w2 : w2.cell? ⟨w.heap.size, 3, none⟩ = some (.int .i64 0) := (blk_cell BK.out 3).trans rfl; have z3w2 := blk_frozen BK.out 3; have d0w2 : w2.cell? ⟨wq.heap.size, 0, none⟩ = some (.int .u8 o) := (blk_cell B8.out 0).trans rfl; have d1w2 : w2.cell? ⟨wq.heap.size, 1, none⟩ = some (.int .u8 p) := (blk_cell B8.out 1).trans rfl; clear hq y0 y1 c0wq z0wq c1wq z1wq c2wq z2wq c3wq z3wq) | (go_at_call 55; refine (HF.out _ ?hb).mono ?_; (case hb => (repeat (first | exact HQ.out | exact Below.refl _ _ | apply below_alloc | apply pw_below_drewN | apply below_drew1))); rintro e w3 ⟨rfl, hq⟩; have B82 := Aside0.mk (blkW hq B8.out); have BK2 := Aside0.mk (blkW hq BK.out); have HB2 := Aside0.mk (below_step HB.out hq); have HQ2 : Aside0 (Below wq.heap.size wq w3) := ⟨below_step HQ.out hq⟩; clear BK HB B8 HQ; have BK := BK2; have HB := HB2; have B8 := B82; have HQ := HQ2; clear BK2 HB2 B82 HQ2; have c0w3 : w3.cell? ⟨w.heap.size, 0, none⟩ = some (.bool false) := (blk_cell BK.out 0).trans rfl; have z0w3 := blk_frozen BK.out 0; have c1w3 : w3.cell? ⟨w.heap.size, 1, none⟩ = some (.bool false) := (blk_cell BK.out 1).trans rfl; have z1w3 := blk_frozen BK.out 1; have c2w3 : w3.cell? ⟨w.heap.size, 2, none⟩ = some (.int .i64 0) := (blk_cell BK.out 2).trans rfl; have z2w3 := blk_frozen BK.out 2; have c3w3 : w3.cell? ⟨w.heap.size, 3, none⟩ = some (.int .i64 0) := (blk_cell BK.out 3).trans rfl; have z3w3 := blk_frozen BK.out 3; have d0w3 : w3.cell? ⟨wq.heap.size, 0, none⟩ = some (.int .u8 o) := (blk_cell B8.out 0).trans rfl; have d1w3 : w3.cell? ⟨wq.heap.size, 1, none⟩ = some (.int .u8 p) := (blk_cell B8.out 1).trans rfl; clear hq d0w2 d1w2 c0w2 z0w2 c1w2 z1w2 c2w2 z2w2 c3w2 z3w2))
    refine bodyPost_ret (results_list (rs := [.tmp 2, .cell 3 77, .tmp 4]) rfl (by simp) (.tmp (.cell w.heap.size 77 #[.bool false, .bool false, .int .i64 0, .int .i64 0] (0, 0) _ rfl (by (with_reducible repeat (first | refine blk_drewN ?_ _ | refine blk_drew ?_ | refine blk_alloc ?_ _)); exact blk_put (blk_put (blk_put (blk_put BK.out 0 _ rfl) 1 _ rfl) 2 _ rfl) 3 _ rfl) Tryz.underlying77 rfl (by kernel_rfl) (.tmp .nil)))) rfl ?_
    exact rw_none HNO.out (by repeat (first | exact HB.out | apply below_alloc | apply pw_below_drewN | apply below_drew1 | refine below_set ?_ (Nat.le_refl _)))
   ·have hn2 : n ≤ 2 := Trm.takesN_le hn
    obtain ⟨m, hm⟩ : ∃ m, m = st.length - n := ⟨_, rfl⟩
    rw [← hm] at hf
    obtain ⟨a, ha⟩ : ∃ a, a = st.drop m := ⟨_, rfl⟩
    rw [← ha] at hf
    have hla : a.length = n := by rw [ha, List.length_drop]; omega
    have HT := Aside0.mk (hT n (by unfold Trm.takesI; rw [show Trm.takesN o p = some n from hn]))
    obtain ⟨i0, hi0, _, hsz0, _⟩ := info_parts info77
    have hcut := cut_from (P := Tryz.prog) 75 77 .i64 Tryz.underlying75 hi0 4 hsz0 A6 st.length c6 (m : Int) (by omega) (by omega)
    have hC6 := Kd.C_drop (m := m) (c := c6) (Kd.R_reads' R6.out).2.2 (by omega) (Kd.R_reads' R6.out).2.1
    rw [Int.toNat_natCast] at hcut
    have hmc : n ≤ c6 - m := by have := (Kd.R_reads' R6.out).2.1; omega
    rw [← ha, hla] at hC6
    rw [show st.length - m = n by omega] at hcut
    obtain ⟨Aa, hAa⟩ : ∃ Aa, Aa = (if c6 = m then A6 else A6.map (·.add (m * 4))) := ⟨_, rfl⟩
    obtain ⟨ca, hca⟩ : ∃ ca, ca = c6 - m := ⟨_, rfl⟩
    replace hC6 : Kd.C k77 wq Aa n a := by rw [hAa]; exact hC6
    rw [← hAa, ← hca] at hcut
    rw [← hca] at hmc
    have HF : Aside0 (∀ W, Below wq.heap.size wq W → Calls Tryz.prog 55 #[.int .u8 o, .slice Aa n ca] W fun e w' => e = .returned (.bool true) ∧ Below W.heap.size W w') := ⟨fun W hW => by
     have h := term_fits.calls o Aa ca a true W (Kd.C_below (by rw [hla]; exact hC6) hW) (by rw [hla]; exact hmc) (by rw [Trm.fits_now hn hla]; exact congrArg some hf)
     rw [hla] at h
     exact h⟩
    have e3 : decide ((n : Int) < 0) = false := decide_eq_false (by omega)
    have e4 : decide ((st.length : Int) < (n : Int)) = false := decide_eq_false (by omega)
    have e5 : decide (st.length < n) = false := decide_eq_false (by omega)
    have wm : IntKind.i64.wrap ((st.length : Int) - (n : Int)) = (m : Int) := by rw [i64_w]; unfold wrap64; have := HL.out; omega
    rw [hs, ← hm, ← ha] at hrun
    obtain ⟨pm, hpm⟩ : ∃ pm, pm = Trm.mk o i a := ⟨_, rfl⟩
    have hpv : pm.f0 = decide (19 ≤ o) ∧ (Trm.plainB o && a.all fun x => x.f1) = pm.f1 ∧ a.foldl (fun d x => max d (x.f2 + 1)) 1 = pm.f2 ∧ (a.head?.map fun x => x.f3).getD (i : Int) = pm.f3 := by rw [hpm]; exact ⟨rfl, rfl, rfl, rfl⟩
    have HPV := Aside0.mk hpv
    have hdd : ∀ x ∈ a, 1 ≤ x.f2 ∧ x.f2 ≤ (i : Int) := fun x hx => HD.out x (List.mem_of_mem_drop (ha ▸ hx))
    have HDD := Aside0.mk hdd
    have hcut2 := cut_to (P := Tryz.prog) 75 77 .i64 Tryz.underlying75 hi0 A6 st.length c6 (m : Int) (by omega) (by omega) (Kd.R_reads' R6.out).2.1
    rw [Int.toNat_natCast] at hcut2
    have HM := Aside0.mk (show m ≤ st.length ∧ al.length ≤ 512 ∧ st.length ≤ 512 ∧ i ≤ 512 ∧ a.length = n ∧ n ≤ 2 from ⟨by omega, by have := HL.out; omega, by have := HL.out; omega, by have := HL.out; omega, hla, hn2⟩)
    have HCA := Aside0.mk (show Kd.C k77 wq Aa a.length a by rw [hla]; exact hC6)
    rw [← hpm] at hrun
    have HNX : Aside0 (Trm.run (i + 1) (al ++ [pm]) (st.take m ++ [pm]) (l.drop (i + 1)) = Trm.run 0 [] [] l ∧ (al ++ [pm]).length ≤ i + 1 ∧ (st.take m ++ [pm]).length ≤ i + 1 ∧ i + 1 + k1 = l.length ∧ ∀ q ∈ st.take m ++ [pm], 1 ≤ q.f2 ∧ q.f2 ≤ ((i + 1 : Nat) : Int)) := ⟨hrun, by rw [List.length_append, List.length_singleton]; omega, by rw [List.length_append, List.length_singleton, List.length_take]; omega, by omega, fun q hq => by
     rcases List.mem_append.1 hq with hq | hq
     ·have := HD.out q (List.mem_of_mem_take hq); omega
     ·rw [List.mem_singleton.1 hq, hpm]
      exact ⟨(Trm.fold_max _ 1).1, Trm.fold_bound _ 1 _ (by omega) fun x hx => by have := hdd x hx; omega⟩⟩
    clear hT hrun hn hal hst hi hil hx hs hle hf hm ha hla hi0 hsz0 hC6 hmc hAa hca hn2 hpv hdd hpm HD
    have hbkq := Aside0.mk (show wq.heap[w.heap.size]? = some (.cells #[.bool false, .bool false, .int .i64 0, .int .i64 0] 77 (0, 0)) from BK.out)
    have hlt0 := Aside0.mk hlt
    have HBq := Aside0.mk HB.out
    go_wp2_with (first | (go_at_call 54; refine (HT.out _).mono ?_; rintro e w2 ⟨rfl, hq⟩; have B8 := Aside0.mk (blkW hq (blk_new wq (.cells #[.int .u8 o, .int .u8 p] 41))); have BK2 := Aside0.mk (blkW hq (blk_alloc BK.out (.cells #[.int .u8 o, .int .u8 p] 41))); have HB2 := Aside0.mk (below_step (below_alloc HB.out (.cells #[.int .u8 o, .int .u8 p] 41)) hq); have HQ : Aside0 (Below wq.heap.size wq w2) := ⟨below_step (below_alloc (Below.refl _ _) _) hq⟩; clear BK HB; have BK := BK2; have HB := HB2; clear BK2 HB2; have c0w2 : w2.cell? ⟨w.heap.size, 0, none⟩ = some (.bool false) := (blk_cell BK.out 0).trans rfl; have z0w2 := blk_frozen BK.out 0; have c1w2 : w2.cell? ⟨w.heap.size, 1, none⟩ = some (.bool false) := (blk_cell BK.out 1).trans rfl; have z1w2 := blk_frozen BK.out 1; have c2w2 : w2.cell? ⟨w.heap.size, 2, none⟩ = some (.int .i64 0) := (blk_cell BK.out 2).trans rfl; have z2w2 := blk_frozen BK.out 2; have c3w2 : w2.cell? ⟨w.heap.size, 3, none⟩ = some (.int .i64 0) := (blk_cell BK.out 3).trans rfl; have z3w2 := blk_frozen BK.out 3; have d0w2 : w2.cell? ⟨wq.heap.size, 0, none⟩ = some (.int .u8 o) := (blk_cell B8.out 0).trans rfl; have d1w2 : w2.cell? ⟨wq.heap.size, 1, none⟩ = some (.int .u8 p) := (blk_cell B8.out 1).trans rfl; clear hq y0 y1 c0wq z0wq c1wq z1wq c2wq z2wq c3wq z3wq) | (go_at_call 55; refine (HF.out _ ?hb).mono ?_; (case hb => (repeat (first | exact HQ.out | exact Below.refl _ _ | apply below_alloc | apply pw_below_drewN | apply below_drew1))); rintro e w3 ⟨rfl, hq⟩; have B82 := Aside0.mk (blkW hq B8.out); have BK2 := Aside0.mk (blkW hq BK.out); have HB2 := Aside0.mk (below_step HB.out hq); have HQ2 : Aside0 (Below wq.heap.size wq w3) := ⟨below_step HQ.out hq⟩; clear BK HB B8 HQ; have BK := BK2; have HB := HB2; have B8 := B82; have HQ := HQ2; clear BK2 HB2 B82 HQ2; have c0w3 : w3.cell? ⟨w.heap.size, 0, none⟩ = some (.bool false) := (blk_cell BK.out 0).trans rfl; have z0w3 := blk_frozen BK.out 0; have c1w3 : w3.cell? ⟨w.heap.size, 1, none⟩ = some (.bool false) := (blk_cell BK.out 1).trans rfl; have z1w3 := blk_frozen BK.out 1; have c2w3 : w3.cell? ⟨w.heap.size, 2, none⟩ = some (.int .i64 0) := (blk_cell BK.out 2).trans rfl; have z2w3 := blk_frozen BK.out 2; have c3w3 : w3.cell? ⟨w.heap.size, 3, none⟩ = some (.int .i64 0) := (blk_cell BK.out 3).trans rfl; have z3w3 := blk_frozen BK.out 3; have d0w3 : w3.cell? ⟨wq.heap.size, 0, none⟩ = some (.int .u8 o) := (blk_cell B8.out 0).trans rfl; have d1w3 : w3.cell? ⟨wq.heap.size, 1, none⟩ = some (.int .u8 p) := (blk_cell B8.out 1).trans rfl; clear hq d0w2 d1w2 c0w2 z0w2 c1w2 z1w2 c2w2 z2w2 c3w2 z3w2))
    have nx0 := World.new_ne w3 _ d0w3
    clear c0w3 z0w3 c1w3 z1w3 c2w3 z2w3 c3w3 z3w3 d1w3 e1 e2 e3 e4 e5 p1 p2
    go_cut [11] from 44 to 51 (fun v11 wc => ∃ g, v11 = .pointer (some ⟨g, 0, none⟩) ∧ Aside0 (wc.heap[g]? = some (.cells #[.bool (decide (19 ≤ o)), .bool (Trm.plainB o), .int .i64 1, .int .i64 (i : Int)] 77 (0, 0))) ∧ Aside0 (Below wq.heap.size wq wc) ∧ Aside0 (wq.heap.size ≤ g) ∧ Aside0 (g < wc.heap.size))
    case first =>
     go_region_held3 (fun w' => w'.cell? ⟨wq.heap.size, 0, none⟩ = some (.int .u8 o)) (first | assumption | go_keep) ((first | (go_at_call 56; with_reducible refine (plain3_calls o _).mono ?_; rintro e w4 ⟨rfl, hd⟩; have HQ34 : Below w3.heap.size w3 w4 := below_step (by repeat (first | exact Below.refl _ _ | apply below_alloc | apply pw_below_drewN | apply below_drew1)) hd.below; have HQ4 := Aside0.mk (below_step HQ.out HQ34); have x0 := cellW d0w3 HQ34; have nx0 := World.new_ne w4 _ x0; (first | (have BZ := blkW hd.below (blk_new w3 (.cells #[.bool false, .bool false, .int .i64 0, .int .i64 0] 77)); have q0 : w4.cell? ⟨w3.heap.size, 0, none⟩ = some (.bool false) := (blk_cell BZ 0).trans rfl; have f0 := blk_frozen BZ 0; have q1 : w4.cell? ⟨w3.heap.size, 1, none⟩ = some (.bool false) := (blk_cell BZ 1).trans rfl; have f1 := blk_frozen BZ 1; have q2 : w4.cell? ⟨w3.heap.size, 2, none⟩ = some (.int .i64 0) := (blk_cell BZ 2).trans rfl; have f2 := blk_frozen BZ 2; have q3 : w4.cell? ⟨w3.heap.size, 3, none⟩ = some (.int .i64 0) := (blk_cell BZ 3).trans rfl; have f3 := blk_frozen BZ 3; have BZ := Aside0.mk BZ) | skip); clear hd HQ34)))
     all_goals (go_wp2_with fail; go_meet)
     all_goals (case rel => first
      | exact ⟨_, rfl, ⟨blk_new w4 _⟩, ⟨below_alloc HQ4.out _⟩, ⟨HQ4.out.size⟩, ⟨by simp⟩⟩
      | exact ⟨_, rfl, ⟨blk_put (blk_put (blk_put (blk_put BZ.out 0 _ rfl) 1 _ rfl) 2 _ rfl) 3 _ rfl⟩, ⟨below_set (below_set (below_set (below_set HQ4.out HQ.out.size) HQ.out.size) HQ.out.size) HQ.out.size⟩, ⟨HQ.out.size⟩, ⟨blk_lt (blk_put (blk_put (blk_put (blk_put BZ.out 0 _ rfl) 1 _ rfl) 2 _ rfl) 3 _ rfl)⟩⟩)
    case rest =>
     obtain ⟨g, rfl, BP, HQC, GE, GL⟩ := hcut
     clear HF d0w3 nx0 B8 HQ BK HB HT
     go_wp2_with fail
     go_loopg [54] n (fun kq v54 w' => ∃ (j : Nat) (pl : Bool) (dp fr : Int), v54 = .int .i64 (j : Int) ∧ Aside0 (j + kq = n) ∧ Aside0 (w'.heap[g]? = some (.cells #[.bool (decide (19 ≤ o)), .bool pl, .int .i64 dp, .int .i64 fr] 77 (0, 0))) ∧ Aside0 ((pl && (a.drop j).all fun x => x.f1) = pm.f1) ∧ Aside0 ((a.drop j).foldl (fun d x => max d (x.f2 + 1)) dp = pm.f2) ∧ Aside0 ((j = 0 → fr = i) ∧ (0 < j → fr = pm.f3) ∧ 1 ≤ dp ∧ dp ≤ 1001) ∧ Aside0 (Below wq.heap.size wq w'))
     case atStart => exact ⟨0, _, _, _, rfl, ⟨by omega⟩, BP, ⟨HPV.out.2.1⟩, ⟨HPV.out.2.2.1⟩, ⟨fun _ => rfl, fun h => absurd h (Nat.lt_irrefl 0), by omega, by omega⟩, HQC⟩
     case round =>
      clear BP HQC
      obtain ⟨j, pl, dp, fr, rfl, hj, BP, hpl, hdp, hfr, HBR⟩ := hrel
      have p0wr : wr.cell? ⟨g, 0, none⟩ = some (.bool (decide (19 ≤ o))) := (blk_cell BP.out 0).trans rfl
      have r0wr := blk_frozen BP.out 0
      have p1wr : wr.cell? ⟨g, 1, none⟩ = some (.bool pl) := (blk_cell BP.out 1).trans rfl
      have r1wr := blk_frozen BP.out 1
      have p2wr : wr.cell? ⟨g, 2, none⟩ = some (.int .i64 dp) := (blk_cell BP.out 2).trans rfl
      have r2wr := blk_frozen BP.out 2
      have p3wr : wr.cell? ⟨g, 3, none⟩ = some (.int .i64 fr) := (blk_cell BP.out 3).trans rfl
      have r3wr := blk_frozen BP.out 3
      have GEn : w.heap.size ≠ g := by have := GE.out; have := hlt0.out; omega
      cases gk with
      | zero =>
       have ha0 : a.drop j = [] := List.drop_of_length_le (by have := HM.out; have := hj.out; omega)
       have hpl0 := hpl.out
       have hdp0 := hdp.out
       rw [ha0, List.all_nil, Bool.and_true] at hpl0
       rw [ha0, List.foldl_nil] at hdp0
       have hfr0 : fr = pm.f3 := by
        rcases Nat.eq_zero_or_pos j with h0 | h0
        ·have h1 : a = [] := List.eq_nil_of_length_eq_zero (by have := HM.out; have := hj.out; omega)
         have h2 := HPV.out.2.2.2
         rw [h1] at h2
         rw [hfr.out.1 h0]
         exact h2
        ·exact hfr.out.2.1 h0
       have BPr : Aside0 (wr.heap[g]? = some (.cells #[.bool pm.f0, .bool pm.f1, .int .i64 pm.f2, .int .i64 pm.f3] 77 (0, 0))) := ⟨by rw [HPV.out.1, ← hpl0, ← hdp0, ← hfr0]; exact BP.out⟩
       have BKr := Aside0.mk (blkW HBR.out hbkq.out)
       have HBr := Aside0.mk (below_step HBq.out HBR.out)
       have R5r := Aside0.mk (Kd.R_below R5.out HBR.out)
       have R6r := Aside0.mk (Kd.R_below R6.out HBR.out)
       have HG6 := Aside0.mk (show ∀ k, (Value.slice A6 m c6).ownBlock = some k → k ≠ g from fun k hk => by have := rq_lt (Kd.R_take R6.out HM.out.1) k hk; have := GE.out; omega)
       have HK6 := Aside0.mk (show ∀ k, (Value.slice A6 m c6).ownBlock = some k → k ≠ w.heap.size from fun k hk => by have := rq_base (Kd.R_take R6.out HM.out.1) k hk; omega)
       have HK5 := Aside0.mk (show ∀ k, (Value.slice A5 al.length c5).ownBlock = some k → k ≠ w.heap.size from fun k hk => by have := rq_base R5.out k hk; omega)
       have HSr : Aside0 (w.heap.size + 1 ≤ (wr.alloc (.cells #[.bool pm.f0, .bool pm.f1, .int .i64 pm.f2, .int .i64 pm.f3] 77)).heap.size) := ⟨by have := blk_lt BKr.out; simp; omega⟩
       have HAP6 := Aside0.mk (show ∀ k, (Value.slice A6 m c6).ownBlock = some k → some k ≠ (Value.slice A5 al.length c5).ownBlock from fun k hk e => HAP.out k e.symm ((show (Value.slice A6 m c6).ownBlock = (Value.slice A6 st.length c6).ownBlock by cases A6 <;> rfl) ▸ hk.symm))
       have HZr : Aside0 (Below wr.heap.size wr (wr.alloc (.cells #[.bool pm.f0, .bool pm.f1, .int .i64 pm.f2, .int .i64 pm.f3] 77)).drew) := ⟨below_drew1 (below_alloc (Below.refl _ _) _)⟩
       have e1 : decide ((j : Int) < (n : Int)) = false := decide_eq_false (by have := hj.out; omega)
       have e2 : decide (j < n) = false := decide_eq_false (by have := hj.out; omega)
       clear p0wr p1wr p2wr p3wr
       have e0wr : wr.cell? ⟨g, 0, none⟩ = some (.bool pm.f0) := (blk_cell BPr.out 0).trans rfl
       have e1wr : wr.cell? ⟨g, 1, none⟩ = some (.bool pm.f1) := (blk_cell BPr.out 1).trans rfl
       have e2wr : wr.cell? ⟨g, 2, none⟩ = some (.int .i64 pm.f2) := (blk_cell BPr.out 2).trans rfl
       have e3wr : wr.cell? ⟨g, 3, none⟩ = some (.int .i64 pm.f3) := (blk_cell BPr.out 3).trans rfl
       clear ha0 hpl0 hdp0 hfr0 hpl hdp hfr hj BP R5 R6
       go_wp2_with fail
       go_region_held3 (fun w' => w'.cell? ⟨g, 0, none⟩ = some (.bool pm.f0) ∧ w'.cell? ⟨g, 1, none⟩ = some (.bool pm.f1) ∧ w'.cell? ⟨g, 2, none⟩ = some (.int .i64 pm.f2) ∧ w'.cell? ⟨g, 3, none⟩ = some (.int .i64 pm.f3)) (first | exact ⟨by assumption, by assumption, by assumption, by assumption⟩ | go_keep) ((first | (refine rq_step (w' := (wr.alloc (.cells #[.bool pm.f0, .bool pm.f1, .int .i64 pm.f2, .int .i64 pm.f3] 77)).drew) (b := w.heap.size + 1) (v := .slice A6 m c6) (l := st.take m) pm ?hw (.tmp 84) (.tmp 86) ?ho ?hs ?hx (Kd.R_below (Kd.R_take R6r.out HM.out.1) HZr.out) (blk_drew (blk_new wr _)) HSr.out ?hl ?_; (case hl => (have := HM.out; rw [List.length_take]; omega)); (case hw => rfl); (case ho => rfl); (case hs => rfl); (case hx => rfl); intro v1 w5 hR5 hg5 hat5; have h5 := grownW (va := .slice A6 m c6) (la := st.take m) (Kd.R_take R6r.out HM.out.1) R5r.out HAP6.out HBr.out HZr.out hg5 hat5; have BP5 := Aside0.mk (h5.2.2.1 _ _ BPr.out HG6.out); have BK5 := Aside0.mk (h5.2.2.1 _ _ BKr.out HK6.out); have HB5 := Aside0.mk h5.2.1; have R55 := Aside0.mk h5.1; have R65 := Aside0.mk hR5; have AP5 := Aside0.mk (show ∀ k, (Value.slice A5 al.length c5).ownBlock = some k → some k ≠ v1.ownBlock from fun k hk e => h5.2.2.2 k e.symm hk.symm); have e0w5 : w5.cell? ⟨g, 0, none⟩ = some (.bool pm.f0) := (blk_cell BP5.out 0).trans rfl; have e1w5 : w5.cell? ⟨g, 1, none⟩ = some (.bool pm.f1) := (blk_cell BP5.out 1).trans rfl; have e2w5 : w5.cell? ⟨g, 2, none⟩ = some (.int .i64 pm.f2) := (blk_cell BP5.out 2).trans rfl; have e3w5 : w5.cell? ⟨g, 3, none⟩ = some (.int .i64 pm.f3) := (blk_cell BP5.out 3).trans rfl; clear hR5 hg5 hat5 h5)))
       all_goals (go_wp2_with ((with_reducible refine gate_builtin (b := .append) (xs := #[.tmp 88, .tmp 90]) rfl ?_); at_builtin; refine rq_append (w' := w5) (v := .slice A5 al.length c5) (l := al) pm rfl (.tmp 88) (.tmp 90) rfl rfl rfl R55.out (by have := HB5.out.size; have := blk_lt BK5.out; omega) (by have := HM.out.2.1; omega) ?_; intro v2 w6 hR6 hg6 hat6; have h6 := grownW (va := .slice A5 al.length c5) (la := al) R55.out R65.out AP5.out HB5.out (Below.refl _ _) hg6 hat6; have R66 := Aside0.mk h6.1; have R56 := Aside0.mk hR6; have HB6 := Aside0.mk h6.2.1; have BK6 := Aside0.mk (h6.2.2.1 _ _ BK5.out HK5.out); have AP6 := Aside0.mk h6.2.2.2; clear hR6 hg6 hat6 h6); go_roundg k1; (case measure => exact Nat.lt_succ_self _); (case rel => exact ⟨_, _, _, _, rfl, rfl, rfl, rfl, ⟨i + 1, _, _, by first | rfl | (show Value.int .i64 (wrap64 _) = _; rw [hw.out]), HNX.out.2.2.2.1, R56.out, R66.out, AP6.out, HB6.out, HNX.out.1, HNX.out.2.1, HNX.out.2.2.1, HNX.out.2.2.2.2, BK6.out⟩⟩))
      | succ k2 =>
       have hjn : j < n := by have := hj.out; omega
       have hja : j < a.length := by have := HM.out; omega
       obtain ⟨ax, eax, h0, h1, h2, h3⟩ := partW HCA.out j hja
       cases eax
       have hlo : (ax.add (j * 4)).block < wq.heap.size := by have h7 := World.block_lt_of_cell? wq _ h0; exact h7
       replace h0 := cellW h0 HBR.out
       replace h1 := cellW h1 HBR.out
       replace h2 := cellW h2 HBR.out
       replace h3 := cellW h3 HBR.out
       have hpl0 := hpl.out
       have hdp0 := hdp.out
       rw [List.drop_eq_getElem_cons hja, List.all_cons] at hpl0
       rw [List.drop_eq_getElem_cons hja, List.foldl_cons] at hdp0
       have hx2 := HDD.out a[j] (List.getElem_mem hja)
       have hx3 : j = 0 → a[j].f3 = pm.f3 := fun h => by
        have hh := HPV.out.2.2.2
        subst h
        rw [← hh]
        cases a with
        | nil => exact absurd hja (by simp)
        | cons y t => rfl
       obtain ⟨x, hx⟩ : ∃ x, x = a[j] := ⟨_, rfl⟩
       rw [← hx] at h0 h1 h2 h3 hpl0 hdp0 hx2 hx3
       have e1 : decide ((j : Int) < (n : Int)) = true := decide_eq_true (by omega)
       have e2 : decide (j < n) = true := decide_eq_true hjn
       have p1 := eq_true (show (0 : Int) ≤ (j : Int) by omega)
       have p2 := eq_true hjn
       have GLr : g < wr.heap.size := blk_lt BP.out
       have gne : g ≠ wr.heap.size := Nat.ne_of_lt GLr
       have n1 : (ax.add (j * 4)).block ≠ g := by have := GE.out; omega
       have hw2 : Aside0 (wrap64 ((j : Int) + 1) = ((j + 1 : Nat) : Int)) := ⟨by have := HM.out; unfold wrap64; omega⟩
       have wx : IntKind.i64.wrap (x.f2 + 1) = x.f2 + 1 := by rw [i64_w]; have := HM.out; unfold wrap64; omega
       have hj1 : Aside0 (j + 1 + k2 = n) := ⟨by have := hj.out; omega⟩
       have HPL := Aside0.mk hpl0
       have HDP := Aside0.mk hdp0
       have HX := Aside0.mk (And.intro hx2 hx3)
       have HFR := Aside0.mk hfr.out
       clear hpl0 hdp0 hx2 hx3 hx hjn hja hlo hpl hdp hfr hj
       by_cases hj0 : j = 0
       ·subst hj0
        rw [show 0 * 4 = 0 from rfl, Addr.add_zero'] at h0 h1 h2 h3 n1
        replace h0 : wr.cell? ax = some (.bool x.f0) := h0
        replace h1 : wr.cell? ⟨ax.block, ax.off + 1, none⟩ = some (.bool x.f1) := h1
        replace h2 : wr.cell? ⟨ax.block, ax.off + 2, none⟩ = some (.int .i64 x.f2) := h2
        replace h3 : wr.cell? ⟨ax.block, ax.off + 3, none⟩ = some (.int .i64 x.f3) := h3
        cases pl
        all_goals
         go_wp2_with fail
        all_goals (go_roundg k2; (case measure => exact Nat.lt_succ_self _); (case rel => first  | exact ⟨0 + 1, x.f1, dp, x.f3, by first | rfl | (show Value.int .i64 (wrap64 _) = _; rw [← hw2.out]; first | done | rfl | (simp; done)), hj1, ⟨(by (with_reducible repeat (first | refine blk_drewN ?_ _ | refine blk_drew ?_ | refine blk_alloc ?_ _)); exact blk_put (blk_put (blk_put BP.out 1 _ rfl) 2 _ rfl) 3 _ rfl)⟩, ⟨by have h := HPL.out; simpa using h⟩, ⟨by have h := HDP.out; rw [show max dp (x.f2 + 1) = dp by omega] at h; exact h⟩, ⟨⟨fun h => absurd h (by omega), fun _ => HX.out.2 (by trivial), by have := HX.out.1; have := HFR.out.2.2; omega, by have := HX.out.1; have := HFR.out.2.2; have := HM.out; omega⟩⟩, ⟨(by repeat (first | exact HBR.out | exact Below.refl _ _ | apply below_alloc | apply pw_below_drewN | apply below_drew1 | refine below_set ?_ GE.out))⟩⟩ | exact ⟨0 + 1, x.f1, (x.f2 + 1), x.f3, by first | rfl | (show Value.int .i64 (wrap64 _) = _; rw [← hw2.out]; first | done | rfl | (simp; done)), hj1, ⟨(by (with_reducible repeat (first | refine blk_drewN ?_ _ | refine blk_drew ?_ | refine blk_alloc ?_ _)); exact blk_put (blk_put (blk_put BP.out 1 _ rfl) 2 _ rfl) 3 _ rfl)⟩, ⟨by have h := HPL.out; simpa using h⟩, ⟨by have h := HDP.out; rw [show max dp (x.f2 + 1) = (x.f2 + 1) by omega] at h; exact h⟩, ⟨⟨fun h => absurd h (by omega), fun _ => HX.out.2 (by trivial), by have := HX.out.1; have := HFR.out.2.2; omega, by have := HX.out.1; have := HFR.out.2.2; have := HM.out; omega⟩⟩, ⟨(by repeat (first | exact HBR.out | exact Below.refl _ _ | apply below_alloc | apply pw_below_drewN | apply below_drew1 | refine below_set ?_ GE.out))⟩⟩ | exact ⟨0 + 1, false, dp, x.f3, by first | rfl | (show Value.int .i64 (wrap64 _) = _; rw [← hw2.out]; first | done | rfl | (simp; done)), hj1, ⟨(by (with_reducible repeat (first | refine blk_drewN ?_ _ | refine blk_drew ?_ | refine blk_alloc ?_ _)); exact blk_put (blk_put (blk_put BP.out 1 _ rfl) 2 _ rfl) 3 _ rfl)⟩, ⟨by have h := HPL.out; simpa using h⟩, ⟨by have h := HDP.out; rw [show max dp (x.f2 + 1) = dp by omega] at h; exact h⟩, ⟨⟨fun h => absurd h (by omega), fun _ => HX.out.2 (by trivial), by have := HX.out.1; have := HFR.out.2.2; omega, by have := HX.out.1; have := HFR.out.2.2; have := HM.out; omega⟩⟩, ⟨(by repeat (first | exact HBR.out | exact Below.refl _ _ | apply below_alloc | apply pw_below_drewN | apply below_drew1 | refine below_set ?_ GE.out))⟩⟩ | exact ⟨0 + 1, false, (x.f2 + 1), x.f3, by first | rfl | (show Value.int .i64 (wrap64 _) = _; rw [← hw2.out]; first | done | rfl | (simp; done)), hj1, ⟨(by (with_reducible repeat (first | refine blk_drewN ?_ _ | refine blk_drew ?_ | refine blk_alloc ?_ _)); exact blk_put (blk_put (blk_put BP.out 1 _ rfl) 2 _ rfl) 3 _ rfl)⟩, ⟨by have h := HPL.out; simpa using h⟩, ⟨by have h := HDP.out; rw [show max dp (x.f2 + 1) = (x.f2 + 1) by omega] at h; exact h⟩, ⟨⟨fun h => absurd h (by omega), fun _ => HX.out.2 (by trivial), by have := HX.out.1; have := HFR.out.2.2; omega, by have := HX.out.1; have := HFR.out.2.2; have := HM.out; omega⟩⟩, ⟨(by repeat (first | exact HBR.out | exact Below.refl _ _ | apply below_alloc | apply pw_below_drewN | apply below_drew1 | refine below_set ?_ GE.out))⟩⟩))
       ·have ez : ((j : Int) == 0) = false := beq_eq_false_iff_ne.2 (by omega)
        have ez2 : (j == 0) = false := beq_eq_false_iff_ne.2 hj0
        have HJ0 : Aside0 (0 < j) := ⟨by omega⟩
        clear hj0
        cases pl
        all_goals
         go_wp2_with fail
        all_goals (go_roundg k2; (case measure => exact Nat.lt_succ_self _); (case rel => first  | exact ⟨j + 1, x.f1, dp, fr, by first | rfl | (show Value.int .i64 (wrap64 _) = _; rw [← hw2.out]; first | done | rfl | (simp; done)), hj1, ⟨(by (with_reducible repeat (first | refine blk_drewN ?_ _ | refine blk_drew ?_ | refine blk_alloc ?_ _)); exact blk_put (blk_put BP.out 1 _ rfl) 2 _ rfl)⟩, ⟨by have h := HPL.out; simpa using h⟩, ⟨by have h := HDP.out; rw [show max dp (x.f2 + 1) = dp by omega] at h; exact h⟩, ⟨⟨fun h => absurd h (by omega), fun _ => HFR.out.2.1 HJ0.out, by have := HX.out.1; have := HFR.out.2.2; omega, by have := HX.out.1; have := HFR.out.2.2; have := HM.out; omega⟩⟩, ⟨(by repeat (first | exact HBR.out | exact Below.refl _ _ | apply below_alloc | apply pw_below_drewN | apply below_drew1 | refine below_set ?_ GE.out))⟩⟩ | exact ⟨j + 1, x.f1, (x.f2 + 1), fr, by first | rfl | (show Value.int .i64 (wrap64 _) = _; rw [← hw2.out]; first | done | rfl | (simp; done)), hj1, ⟨(by (with_reducible repeat (first | refine blk_drewN ?_ _ | refine blk_drew ?_ | refine blk_alloc ?_ _)); exact blk_put (blk_put BP.out 1 _ rfl) 2 _ rfl)⟩, ⟨by have h := HPL.out; simpa using h⟩, ⟨by have h := HDP.out; rw [show max dp (x.f2 + 1) = (x.f2 + 1) by omega] at h; exact h⟩, ⟨⟨fun h => absurd h (by omega), fun _ => HFR.out.2.1 HJ0.out, by have := HX.out.1; have := HFR.out.2.2; omega, by have := HX.out.1; have := HFR.out.2.2; have := HM.out; omega⟩⟩, ⟨(by repeat (first | exact HBR.out | exact Below.refl _ _ | apply below_alloc | apply pw_below_drewN | apply below_drew1 | refine below_set ?_ GE.out))⟩⟩ | exact ⟨j + 1, false, dp, fr, by first | rfl | (show Value.int .i64 (wrap64 _) = _; rw [← hw2.out]; first | done | rfl | (simp; done)), hj1, ⟨(by (with_reducible repeat (first | refine blk_drewN ?_ _ | refine blk_drew ?_ | refine blk_alloc ?_ _)); exact blk_put (blk_put BP.out 1 _ rfl) 2 _ rfl)⟩, ⟨by have h := HPL.out; simpa using h⟩, ⟨by have h := HDP.out; rw [show max dp (x.f2 + 1) = dp by omega] at h; exact h⟩, ⟨⟨fun h => absurd h (by omega), fun _ => HFR.out.2.1 HJ0.out, by have := HX.out.1; have := HFR.out.2.2; omega, by have := HX.out.1; have := HFR.out.2.2; have := HM.out; omega⟩⟩, ⟨(by repeat (first | exact HBR.out | exact Below.refl _ _ | apply below_alloc | apply pw_below_drewN | apply below_drew1 | refine below_set ?_ GE.out))⟩⟩ | exact ⟨j + 1, false, (x.f2 + 1), fr, by first | rfl | (show Value.int .i64 (wrap64 _) = _; rw [← hw2.out]; first | done | rfl | (simp; done)), hj1, ⟨(by (with_reducible repeat (first | refine blk_drewN ?_ _ | refine blk_drew ?_ | refine blk_alloc ?_ _)); exact blk_put (blk_put BP.out 1 _ rfl) 2 _ rfl)⟩, ⟨by have h := HPL.out; simpa using h⟩, ⟨by have h := HDP.out; rw [show max dp (x.f2 + 1) = (x.f2 + 1) by omega] at h; exact h⟩, ⟨⟨fun h => absurd h (by omega), fun _ => HFR.out.2.1 HJ0.out, by have := HX.out.1; have := HFR.out.2.2; omega, by have := HX.out.1; have := HFR.out.2.2; have := HM.out; omega⟩⟩, ⟨(by repeat (first | exact HBR.out | exact Below.refl _ _ | apply below_alloc | apply pw_below_drewN | apply below_drew1 | refine below_set ?_ GE.out))⟩⟩))
/-- Are the tokens a formula's (path: a path's)? The error's number. -/
def Trm.checkN (l : List Trm.Tk) (path : Bool) : Int :=
 match Trm.run 0 [] [] l with
 | some (_, [p]) => if p.f0 = path then (if p.f2 > 64 then 8 else 0) else 7
 | _ => 7
/-- Are tokens a formula's (path: a path's)? The error's number. -/
def chkT (l : List Trm.Tk) (path : Bool) : Int := if l.length > 512 then 3 else Trm.checkN l path
theorem chk_last {l : List Trm.Tk} (path : Bool) (h : ¬ l.length > 512) : chkT l path = match lastW l with | some p => if p.f0 = path then (if p.f2 > 64 then 8 else 0) else 7 | none => 7 := by
 unfold chkT Trm.checkN lastW
 rw [if_neg h]
 rcases Trm.run 0 [] [] l with _ | ⟨a, _ | ⟨p, _ | ⟨q, s⟩⟩⟩ <;> rfl
set_option maxHeartbeats 16000000 in
set_option maxRecDepth 100000 in
theorem check2_calls (A : Option Addr) (c : Nat) (l : List Trm.Tk) (path : Bool) (w : World) (hr : Kd.C k41 w A l.length l) :
  Calls Tryz.prog 25 #[.slice A l.length c, .bool path] w fun e w' => e = .returned (.int .i64 (chkT l path)) ∧ Below w.heap.size w w' := by
 by_cases h5 : l.length > 512
 ·rw [show chkT l path = 3 by unfold chkT; rw [if_pos h5]]
  have d1 : decide (512 < (l.length : Int)) = true := decide_eq_true (by omega)
  have d2 : decide (512 < l.length) = true := decide_eq_true h5
  clear h5 hr
  go_enter Tryz.func25, Tryz.ntmps25
  go_wp2
  go_ret
  exact ⟨rfl, Below.refl _ _⟩
 have d1 : decide (512 < (l.length : Int)) = false := decide_eq_false (by omega)
 have d2 : decide (512 < l.length) = false := decide_eq_false h5
 rw [chk_last path h5]
 have hc := readw_calls A c l w hr (by omega)
 clear hr h5
 cases hl : lastW l with
 | none =>
  have HC : Aside0 (Calls Tryz.prog 37 #[.slice A l.length c] w fun e w' => ∃ v : Value, e = .returned (.tuple #[v, .agg #[.bool false, .bool false, .int .i64 0, .int .i64 0], .bool false]) ∧ Below w.heap.size w w') := ⟨hc.mono (fun e w' h => by unfold RwPost at h; rw [hl] at h; exact h)⟩
  clear hc hl
  go_enter Tryz.func25, Tryz.ntmps25
  go_wp2_with (go_at_call 37; refine HC.out.mono ?_; rintro e w2 ⟨v, rfl, hq⟩; have HB := Aside0.mk hq; clear hq)
  go_ret
  exact ⟨rfl, by repeat (first | exact HB.out | apply below_alloc | apply pw_below_drewN | apply below_drew1 | refine below_set ?_ HB.out.size)⟩
 | some p =>
  have HC : Aside0 (Calls Tryz.prog 37 #[.slice A l.length c] w fun e w' => ∃ v : Value, e = .returned (.tuple #[v, .agg #[.bool p.f0, .bool p.f1, .int .i64 p.f2, .int .i64 p.f3], .bool true]) ∧ Below w.heap.size w w') := ⟨hc.mono (fun e w' h => by unfold RwPost at h; rw [hl] at h; exact h)⟩
  clear hc hl
  show Calls _ _ _ _ fun e w' => e = .returned (.int .i64 (if p.f0 = path then (if p.f2 > 64 then 8 else 0) else 7)) ∧ _
  by_cases hp : p.f0 = path
  ·rw [if_pos hp]
   have e1 : (p.f0 == path) = true := by rw [hp, beq_self_eq_true]
   have e2 : (p.f0 != path) = false := by rw [hp]; exact bne_self_eq_false _
   clear hp
   by_cases hd : p.f2 > 64
   ·rw [if_pos hd]
    have e3 : decide (64 < p.f2) = true := decide_eq_true hd
    clear hd
    go_enter Tryz.func25, Tryz.ntmps25
    go_wp2_with (go_at_call 37; refine HC.out.mono ?_; rintro e w2 ⟨v, rfl, hq⟩; have HB := Aside0.mk hq; clear hq)
    go_ret
    exact ⟨rfl, by repeat (first | exact HB.out | apply below_alloc | apply pw_below_drewN | apply below_drew1 | refine below_set ?_ HB.out.size)⟩
   ·rw [if_neg hd]
    have e3 : decide (64 < p.f2) = false := decide_eq_false hd
    clear hd
    go_enter Tryz.func25, Tryz.ntmps25
    go_wp2_with (go_at_call 37; refine HC.out.mono ?_; rintro e w2 ⟨v, rfl, hq⟩; have HB := Aside0.mk hq; clear hq)
    go_ret
    exact ⟨rfl, by repeat (first | exact HB.out | apply below_alloc | apply pw_below_drewN | apply below_drew1 | refine below_set ?_ HB.out.size)⟩
  ·rw [if_neg hp]
   have e1 : (p.f0 == path) = false := beq_eq_false_iff_ne.2 hp
   have e2 : (p.f0 != path) = true := bne_iff_ne.2 hp
   clear hp
   go_enter Tryz.func25, Tryz.ntmps25
   go_wp2_with (go_at_call 37; refine HC.out.mono ?_; rintro e w2 ⟨v, rfl, hq⟩; have HB := Aside0.mk hq; clear hq)
   go_ret
   exact ⟨rfl, by repeat (first | exact HB.out | apply below_alloc | apply pw_below_drewN | apply below_drew1 | refine below_set ?_ HB.out.size)⟩
def term_Check.f (k : Nat) (l0 : List (S41)) : Option Int := some (chkT l0 false)
def term_Path.f (k : Nat) (l0 : List (S41)) : Option Int := some (chkT l0 true)
theorem term_Check.mono : ∀ a0 k, LeO (term_Check.f k a0) (term_Check.f (k + 1) a0) := fun _ _ => LeO.refl _
theorem term_Path.mono : ∀ a0 k, LeO (term_Path.f k a0) (term_Path.f (k + 1) a0) := fun _ _ => LeO.refl _
theorem term_Check.calls (k : Nat) (A0 : Option Addr) (c0 : Nat) (l0 : List (S41)) (r : Int) (w : World) (hr0 : Kd.C k41 w A0 l0.length l0) (hc0 : l0.length ≤ c0) (h : term_Check.f k l0 = some r) :
  Calls Tryz.prog 14 #[.slice A0 l0.length c0] w fun e w' => e = .returned (.int .i64 r) ∧ Below w.heap.size w w' := by
 obtain rfl := Option.some.inj h
 have HC := Aside0.mk (check2_calls A0 c0 l0 false w hr0)
 clear hr0 hc0 h
 go_enter Tryz.func14, Tryz.ntmps14
 go_wp2_with (go_at_call 25; refine HC.out.mono ?_; rintro e w2 ⟨rfl, hq⟩; have HB := Aside0.mk hq; clear hq)
 go_ret
 exact ⟨rfl, HB.out⟩
theorem term_Path.calls (k : Nat) (A0 : Option Addr) (c0 : Nat) (l0 : List (S41)) (r : Int) (w : World) (hr0 : Kd.C k41 w A0 l0.length l0) (hc0 : l0.length ≤ c0) (h : term_Path.f k l0 = some r) :
  Calls Tryz.prog 19 #[.slice A0 l0.length c0] w fun e w' => e = .returned (.int .i64 r) ∧ Below w.heap.size w w' := by
 obtain rfl := Option.some.inj h
 have HC := Aside0.mk (check2_calls A0 c0 l0 true w hr0)
 clear hr0 hc0 h
 go_enter Tryz.func19, Tryz.ntmps19
 go_wp2_with (go_at_call 25; refine HC.out.mono ?_; rintro e w2 ⟨rfl, hq⟩; have HB := Aside0.mk hq; clear hq)
 go_ret
 exact ⟨rfl, HB.out⟩
end Go.Proofs.YtaogoabnidbbpaaGreatDoor.PText
