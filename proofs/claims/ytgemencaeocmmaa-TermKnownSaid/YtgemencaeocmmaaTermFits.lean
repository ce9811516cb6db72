/- Whether a token may take the parts on the stack's top: the call of fits, where there are as many parts as it looks at. -/
import Derived.Test.YtgemencaeocmmaaPTermx0
namespace Go.Proofs.Ytgemencaeocmmaa.PTerm
open Go.RowKit Go.Proofs.YtgemencaeocmmaaW.PrintWords Go.Proofs.YtgemencaeocmmaaW.PrintLast Go.Proofs.YtgemencaeocmmaaW.PrintMore
set_option linter.unusedVariables false
/-- The part's first field: is it a path? -/
theorem isPath (b c : Bool) (d f : Int) (w : World) : Calls Try.prog 58 #[.agg #[.bool b, .bool c, .int .i64 d, .int .i64 f]] w fun e w' => e = .returned (.bool b) ∧ Below w.heap.size w w' := by
  go_enter Try.func58, Try.ntmps58
  go_wp2
  go_ret
  exact ⟨rfl, below_alloc (Below.refl _ _) _⟩
/-- Where the first path stands among the parts, from n on; -1: nowhere. -/
def pathAt (l : List S55) (n : Nat) : Int := if n < l.length then (if (l.getD n z55).f0 = true then (n : Int) else pathAt l (n + 1)) else -1
termination_by l.length - n
theorem pathAt_any (l : List S55) : ∀ k n, l.length - n = k → decide (pathAt l n ≥ 0) = (l.drop n).any (fun x => x.f0) := by
  intro k
  induction k with
  | zero =>
    intro n h
    unfold pathAt
    rw [if_neg (by omega), List.drop_eq_nil_of_le (by omega)]
    rfl
  | succ k ih =>
    intro n h
    unfold pathAt
    have hn : n < l.length := by omega
    rw [if_pos hn, List.drop_eq_getElem_cons hn, List.any_cons]
    have e : l.getD n z55 = l[n] := by rw [List.getD_eq_getElem?_getD, List.getElem?_eq_getElem hn]; rfl
    rw [e]
    cases hb : l[n].f0
    · rw [if_neg (by decide), ih (n + 1) (by omega)]; rfl
    · rw [if_pos rfl, Bool.true_or]; simp
set_option maxHeartbeats 1000000 in
theorem index_calls (A : Option Addr) (c : Nat) (l : List S55) (w : World) (hr : Kd.C k55 w A l.length l) (hl : l.length ≤ 4611686018427387904) :
    Calls Try.prog 60 #[.slice A l.length c, .func (.func 58) #[] #[]] w fun e w' => e = .returned (.int .i64 (pathAt l 0)) ∧ Below w.heap.size w w' := by
  have HR := Aside0.mk hr
  clear hr
  obtain ⟨n, hn⟩ : ∃ n, n = l.length := ⟨_, rfl⟩
  rw [← hn] at HR hl ⊢
  have HN := Aside0.mk hn
  clear hn
  go_enter Try.func60, Try.ntmps60
  go_wp2
  go_loopw [8] (fun i w' => ∃ j : Nat, j ≤ n ∧ i = .int .i64 j ∧ Aside0 (pathAt l j = pathAt l 0) ∧ Aside0 (Below w.heap.size w w')) (fun i _ => n - (intOf i).toNat)
  case atStart => exact ⟨0, Nat.zero_le _, rfl, ⟨rfl⟩, ⟨Below.refl _ _⟩⟩
  case round =>
    obtain ⟨j, hj, rfl, HP, HB⟩ := hrel
    by_cases hlt : j < n
    · have hrd := HR.out
      rw [HN.out] at hrd
      obtain ⟨ad, e1, h0, h1, h2, h3⟩ := at_T55 hrd (j : Int) (by omega) (by have := HN.out; omega)
      obtain ⟨x, hx⟩ : ∃ x, x = rd_T55 l j := ⟨_, rfl⟩
      rw [← hx] at h0 h1 h2 h3
      have HX := Aside0.mk hx
      cases e1
      clear hrd hx
      rw [Int.toNat_natCast] at h0 h1 h2 h3
      replace h0 := pw_cell_below HB.out h0
      replace h1 := pw_cell_below HB.out h1
      replace h2 := pw_cell_below HB.out h2
      replace h3 := pw_cell_below HB.out h3
      have g0 : (0 : Int) ≤ j := by omega
      have g1 : (j : Int) < n := by omega
      obtain ⟨b, c1, d, f⟩ := x
      simp only at h0 h1 h2 h3
      have HP2 : pathAt l j = if b = true then (j : Int) else pathAt l (j + 1) := by
        rw [pathAt, if_pos (by have := HN.out; omega)]
        have e : l.getD j z55 = rd_T55 l j := by unfold rd_T55; rw [Int.toNat_natCast]
        rw [e, ← HX.out]
      cases b
      · rw [if_neg (by decide)] at HP2
        replace HP2 := Aside0.mk (HP.out.symm.trans HP2)
        clear HX HP
        go_wp2_with (go_at_call 58; refine (isPath false c1 d f _).mono ?_; rintro e w1 ⟨rfl, hb⟩)
        go_roundw
        case rel => exact ⟨j + 1, by omega, by go_num, ⟨HP2.out.symm⟩, ⟨below_step HB.out hb⟩⟩
        case measure => simp [intOf]; omega
      · rw [if_pos rfl] at HP2
        replace HP2 := Aside0.mk (HP.out.symm.trans HP2)
        clear HX HP
        go_wp2_with (go_at_call 58; refine (isPath true c1 d f _).mono ?_; rintro e w1 ⟨rfl, hb⟩)
        go_ret
        exact ⟨congrArg (fun x : Int => Ending.returned (.int .i64 x)) HP2.out.symm, below_step HB.out hb⟩
    · obtain rfl : j = n := by omega
      go_wp2
      go_ret
      exact ⟨congrArg (fun x : Int => Ending.returned (.int .i64 x)) (by rw [← HP.out, pathAt, if_neg (by have := HN.out; omega)]), HB.out⟩
theorem contains_calls (A : Option Addr) (c : Nat) (l : List S55) (w : World) (hr : Kd.C k55 w A l.length l) (hl : l.length ≤ 4611686018427387904) :
    Calls Try.prog 57 #[.slice A l.length c, .func (.func 58) #[] #[]] w fun e w' => e = .returned (.bool (l.any fun x => x.f0)) ∧ Below w.heap.size w w' := by
  have H := Aside0.mk (index_calls A c l w hr hl)
  have HP := Aside0.mk (pathAt_any l _ 0 rfl)
  clear hr hl
  generalize l.length = n at H ⊢
  go_enter Try.func57, Try.ntmps57
  go_wp2_with (go_at_call 60; refine H.out.mono ?_; rintro e w1 ⟨rfl, hb⟩)
  go_ret
  have := HP.out
  rw [List.drop_zero] at this
  exact ⟨congrArg (fun x : Bool => Ending.returned (.bool x)) this, hb⟩
/-- May the token take these parts? Nothing where there are too few. -/
def term_fits.f (a0 : Int) (l1 : List S55) : Option Bool :=
  if a0 = 17 ∨ a0 = 18 then (match l1 with | x :: y :: _ => some (x.f0 && !y.f0) | _ => none)
  else if a0 = 21 ∨ a0 = 22 then (match l1 with | x :: y :: _ => some (x.f0 && y.f0) | _ => none)
  else if a0 = 23 then (match l1 with | x :: _ => some x.f0 | _ => none)
  else if a0 = 19 then (match l1 with | x :: _ => some (!x.f0 && x.f1) | _ => none)
  else if l1.length ≤ 4611686018427387904 then some (!(l1.any fun x => x.f0)) else none
theorem first_part {A : Option Addr} {x : S55} {l : List S55} {w : World} (hr : Kd.C k55 w A (x :: l).length (x :: l)) : ∃ ad, A = some ad ∧ w.cell? ad = some (.bool x.f0) ∧ w.cell? ⟨ad.block, ad.off + 1, none⟩ = some (.bool x.f1) := by
  obtain ⟨ad, e1, h0, h1, h2, h3⟩ := at_T55 hr 0 (by omega) (by simp)
  refine ⟨ad, e1, ?_, ?_⟩
  · rw [show (0 : Int).toNat * 4 = 0 from rfl, Addr.add_zero'] at h0; exact h0
  · rw [show (0 : Int).toNat * 4 = 0 from rfl, Addr.add_zero'] at h1; exact h1
theorem second_part {ad : Addr} {x y : S55} {l : List S55} {w : World} (hr : Kd.C k55 w (some ad) (x :: y :: l).length (x :: y :: l)) : w.cell? ⟨ad.block, ad.off + 4, none⟩ = some (.bool y.f0) := by
  obtain ⟨ad1, e1, h0, h1, h2, h3⟩ := at_T55 hr 1 (by omega) (by simp; omega)
  cases e1
  simp only [show (1 : Int).toNat = 1 from rfl, Nat.reduceMul, Nat.reduceEqDiff, Go.Addr.add, ↓reduceIte] at h0
  exact h0
set_option maxHeartbeats 4000000 in
theorem fits_two (a0 : Int) (ad : Addr) (n c1 : Nat) (b b2 : Bool) (w : World) (hn : 2 ≤ n) (h0 : w.cell? ad = some (.bool b)) (h1 : w.cell? ⟨ad.block, ad.off + 4, none⟩ = some (.bool b2)) :
    ((a0 = 17 ∨ a0 = 18) → Calls Try.prog 52 #[.int .u8 a0, .slice (some ad) n c1] w fun e w' => e = .returned (.bool (b && !b2)) ∧ Below w.heap.size w w') ∧
    ((a0 = 21 ∨ a0 = 22) → Calls Try.prog 52 #[.int .u8 a0, .slice (some ad) n c1] w fun e w' => e = .returned (.bool (b && b2)) ∧ Below w.heap.size w w') := by
  have g0 : (0 : Int) < n := by omega
  have g1 : (1 : Int) < n := by omega
  constructor
  all_goals
    rintro (rfl | rfl)
    all_goals
      cases b
      all_goals
        go_enter Try.func52, Try.ntmps52
        go_wp2
        go_ret
        exact ⟨rfl, Below.refl _ _⟩
set_option maxHeartbeats 4000000 in
theorem fits_one (ad : Addr) (n c1 : Nat) (b b2 : Bool) (w : World) (hn : 1 ≤ n) (h0 : w.cell? ad = some (.bool b)) (h1 : w.cell? ⟨ad.block, ad.off + 1, none⟩ = some (.bool b2)) :
    (Calls Try.prog 52 #[.int .u8 23, .slice (some ad) n c1] w fun e w' => e = .returned (.bool b) ∧ Below w.heap.size w w') ∧
    (Calls Try.prog 52 #[.int .u8 19, .slice (some ad) n c1] w fun e w' => e = .returned (.bool (!b && b2)) ∧ Below w.heap.size w w') := by
  have g0 : (0 : Int) < n := by omega
  constructor
  all_goals
    cases b
    all_goals
      go_enter Try.func52, Try.ntmps52
      go_wp2
      go_ret
      exact ⟨rfl, Below.refl _ _⟩
set_option maxHeartbeats 4000000 in
theorem fits_else (a0 : Int) (A : Option Addr) (c : Nat) (l : List S55) (w : World) (hr : Kd.C k55 w A l.length l) (hl : l.length ≤ 4611686018427387904)
    (c17 : ¬ a0 = 17) (c18 : ¬ a0 = 18) (c21 : ¬ a0 = 21) (c22 : ¬ a0 = 22) (c23 : ¬ a0 = 23) (c19 : ¬ a0 = 19) :
    Calls Try.prog 52 #[.int .u8 a0, .slice A l.length c] w fun e w' => e = .returned (.bool (!(l.any fun x => x.f0))) ∧ Below w.heap.size w w' := by
  have H := Aside0.mk (contains_calls A c l w hr hl)
  clear hr hl
  generalize l.length = n at H ⊢
  generalize (l.any fun x => x.f0) = b at H ⊢
  replace c17 : (a0 == 17) = false := beq_eq_false_iff_ne.mpr c17
  replace c18 : (a0 == 18) = false := beq_eq_false_iff_ne.mpr c18
  replace c21 : (a0 == 21) = false := beq_eq_false_iff_ne.mpr c21
  replace c22 : (a0 == 22) = false := beq_eq_false_iff_ne.mpr c22
  replace c23 : (a0 == 23) = false := beq_eq_false_iff_ne.mpr c23
  replace c19 : (a0 == 19) = false := beq_eq_false_iff_ne.mpr c19
  go_enter Try.func52, Try.ntmps52
  go_wp2_with (go_at_call 57; refine H.out.mono ?_; rintro e w1 ⟨rfl, hb⟩)
  go_ret
  exact ⟨rfl, hb⟩
theorem term_fits.calls (a0 : Int) (A1 : Option Addr) (c1 : Nat) (l1 : List S55) (r : Bool) (w : World) (hr1 : Kd.C k55 w A1 l1.length l1) (hc1 : l1.length ≤ c1) (h : term_fits.f a0 l1 = some r) :
    Calls Try.prog 52 #[.int .u8 a0, .slice A1 l1.length c1] w fun e w' => e = .returned (.bool r) ∧ Below w.heap.size w w' := by
  unfold term_fits.f at h
  by_cases k1 : a0 = 17 ∨ a0 = 18
  · rw [if_pos k1] at h
    rcases l1 with _ | ⟨x, _ | ⟨y, l⟩⟩ <;> simp only at h
    · cases h
    · cases h
    · obtain rfl := Option.some.inj h
      obtain ⟨ad, rfl, h0, _⟩ := first_part hr1
      exact (fits_two a0 ad _ c1 x.f0 y.f0 w (by simp) h0 (second_part hr1)).1 k1
  rw [if_neg k1] at h
  by_cases k2 : a0 = 21 ∨ a0 = 22
  · rw [if_pos k2] at h
    rcases l1 with _ | ⟨x, _ | ⟨y, l⟩⟩ <;> simp only at h
    · cases h
    · cases h
    · obtain rfl := Option.some.inj h
      obtain ⟨ad, rfl, h0, _⟩ := first_part hr1
      exact (fits_two a0 ad _ c1 x.f0 y.f0 w (by simp) h0 (second_part hr1)).2 k2
  rw [if_neg k2] at h
  by_cases k3 : a0 = 23
  · rw [if_pos k3] at h
    rcases l1 with _ | ⟨x, l⟩ <;> simp only at h
    · cases h
    · obtain rfl := Option.some.inj h
      obtain ⟨ad, rfl, h0, h1⟩ := first_part hr1
      rw [k3]
      exact (fits_one ad _ c1 x.f0 x.f1 w (by simp) h0 h1).1
  rw [if_neg k3] at h
  by_cases k4 : a0 = 19
  · rw [if_pos k4] at h
    rcases l1 with _ | ⟨x, l⟩ <;> simp only at h
    · cases h
    · obtain rfl := Option.some.inj h
      obtain ⟨ad, rfl, h0, h1⟩ := first_part hr1
      rw [k4]
      exact (fits_one ad _ c1 x.f0 x.f1 w (by simp) h0 h1).2
  rw [if_neg k4] at h
  split at h
  case isFalse => cases h
  case isTrue hl =>
    obtain rfl := Option.some.inj h
    exact fits_else a0 A1 c1 l1 w hr1 hl (fun e => k1 (.inl e)) (fun e => k1 (.inr e)) (fun e => k2 (.inl e)) (fun e => k2 (.inr e)) k3 k4
end Go.Proofs.Ytgemencaeocmmaa.PTerm
