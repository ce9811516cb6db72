/- Of any two cubes the law's function answers true: what both have, what is left, and Within are as sets are. Conditions: none but that the cubes' numbers are bytes. -/
import Derived.Test.YtpnocpfagbfboaaCubeMore
import Derived.Test.YtpnocpfagbfboaaCubeSetsWalk
namespace Go.Proofs.Ytpnocpfagbfboaa.CPCubeSets
open Go.RowKit Go.Proofs.Ytpnocpfagbfboaa.PCubeSets Go.Proofs.YtpnocpfagbfboaaW.PrintWords Go.Proofs.YtpnocpfagbfboaaW.PrintLast Go.Proofs.YtpnocpfagbfboaaW.PrintMore Go.Proofs.Ytpnocpfagbfboaa.CubeNat

/-- The program's side. -/
theorem pmay (c v : Nat) (hc : c < 256) (hv : v < 256) : cube_may.f c v = some (mayB c v 0 8) := by
  unfold cube_may.f
  rw [u8_andNot_nat v c hv hc, cast_zero]
  congr 1
  rw [Bool.eq_iff_iff, decide_eq_true_iff, mayB_may]
  exact may_iff hc hv
theorem phas (c v l : Nat) (hc : c < 256) (hv : v < 256) (hl : l < 256) : cube_Has.f c v l = some (HasB c v l) := by
  unfold cube_Has.f
  rw [pmay c v hc hv]
  simp only [Option.bind_some]
  unfold HasB
  rcases Bool.eq_false_or_eq_true (mayB c v 0 8) with h | h
  · rw [if_pos h, u8_and_nat l c hl hc, h, Bool.true_and]
    congr 1
    rw [Bool.eq_iff_iff, beq_iff_eq, hasB_iff]
    have := has_iff (l := l) hc hv ((mayB_may c v).1 h)
    constructor
    · intro e p _ hp; exact this.1 (by exact_mod_cast e) p (by omega)
    · intro e; exact_mod_cast this.2 (fun p hp => e p (Nat.zero_le _) (by omega))
  · rw [if_neg (by simp [h]), h, Bool.false_and]

theorem pmeet (c v c' v' : Nat) (hc : c < 256) (hv : v < 256) (hc' : c' < 256) (hv' : v' < 256) :
    cube_Meet.f c v c' v' = some (if MeetB c v c' v' = true then (((c ||| c' : Nat) : Int), ((v ||| v' : Nat) : Int), true) else (0, 0, false)) := by
  unfold cube_Meet.f
  rw [pmay c v hc hv, pmay c' v' hc' hv']
  simp only [Option.bind_some]
  rw [u8_xor_nat v v' hv hv', u8_and_nat _ c (xor_lt hv hv') hc, u8_and_nat _ c' (and_lt (xor_lt hv hv')) hc', u8_or_nat c c' hc hc', u8_or_nat v v' hv hv']
  unfold MeetB
  rcases Bool.eq_false_or_eq_true (mayB c v 0 8) with h | h
  · rcases Bool.eq_false_or_eq_true (mayB c' v' 0 8) with k | k
    · rw [if_pos h, if_pos k, h, k]
      simp only [Bool.true_and, decide_eq_true_eq]
      by_cases e : ((v ^^^ v') &&& c) &&& c' = 0
      · rw [if_pos e, if_pos (by exact_mod_cast e)]
      · rw [if_neg e, if_neg (by exact_mod_cast e)]
    · rw [if_pos h, if_neg (by simp [k]), h, k]; simp
  · rw [if_neg (by simp [h]), h]; simp
theorem pwithin (c v c' v' : Nat) (hc : c < 256) (hv : v < 256) (hc' : c' < 256) (hv' : v' < 256) :
    cube_Within.f c v c' v' = some (WithinB c v c' v') := by
  unfold cube_Within.f
  rw [pmay c v hc hv, pmeet c v c' v' hc hv hc' hv']
  simp only [Option.bind_some]
  unfold WithinB
  rcases Bool.eq_false_or_eq_true (mayB c v 0 8) with h | h
  · rw [if_pos h, h]
    rcases Bool.eq_false_or_eq_true (MeetB c v c' v') with k | k
    · simp only [k, if_true, cast_beq]; simp
    · simp [k]
  · rw [if_neg (by simp [h]), h]; simp

/-- A cube as the program's struct. -/
def toS (s : Nat × Nat) : S24 := ⟨s.1, s.2⟩
theorem minusN_none {c v c' v' : Nat} (d : Nat) : ∀ i, (∀ p, i ≤ p → p < i + d → c'.testBit p = true → c.testBit p = true) → minusN c v c' v' i d = [] := by
  induction d with
  | zero => intro i _; rfl
  | succ d ih =>
    intro i h
    unfold minusN
    rw [if_neg, ih (i + 1) (fun p h1 h2 => h p (by omega) (by omega))]
    rintro ⟨h1, h2⟩
    rw [h i (Nat.le_refl _) (by omega) h1] at h2
    cases h2
theorem pminus_loop (c' v' : Nat) (hc' : c' < 256) (hv' : v' < 256) (d : Nat) : ∀ (i c v : Nat) (out : List S24), i + d = 8 → c < 256 → v < 256 → out.length ≤ i →
    (∀ p, p < i → c'.testBit p = true → c.testBit p = true) →
    Ev (fun k => cube_Minus.l0 k out ((2 ^ i % 256 : Nat) : Int) ((c' &&& (255 - c) : Nat) : Int) c v c' v') (out ++ (minusN c v c' v' i d).map toS) := by
  induction d with
  | zero =>
    intro i c v out hi hc hv _ hd
    refine Ev.of (fun k => (cube_Minus.mono_l k) _ _ _ _ _ _ _) (k := 1) ?_
    simp only [cube_Minus.l0, minusN, List.map_nil, List.append_nil]
    have : c' &&& (255 - c) = 0 := by
      refine ext8 (and_lt hc') (by decide) fun p hp => ?_
      rw [Nat.testBit_and, tb_not hc, Nat.zero_testBit]
      cases h : c'.testBit p with
      | false => rfl
      | true => rw [hd p (by omega) h]; simp
    rw [this]; rfl
  | succ d ih =>
    intro i c v out hi hc hv hl hd
    have hi8 : i < 8 := by omega
    have h2 : 2 ^ i % 256 = 2 ^ i := Nat.mod_eq_of_lt (pow_lt8 hi8)
    by_cases hz : c' &&& (255 - c) = 0
    · rw [minusN_none]
      · rw [List.map_nil, List.append_nil]
        refine Ev.of (fun k => (cube_Minus.mono_l k) _ _ _ _ _ _ _) (k := 1) ?_
        simp only [cube_Minus.l0]
        rw [hz]; rfl
      · intro p h1 h3 h4
        have := congrArg (fun x => x.testBit p) hz
        simp only [Nat.testBit_and, tb_not hc, h4, Nat.zero_testBit] at this
        have hp : p < 8 := by omega
        simpa [hp] using this
    · have hz' : ¬ ((c' &&& (255 - c) : Nat) : Int) = 0 := by exact_mod_cast hz
      have hbit : (c' &&& (255 - c)) &&& 2 ^ i = 0 ↔ ¬ (c'.testBit i = true ∧ c.testBit i = false) := by
        have ht : (c' &&& (255 - c)).testBit i = (c'.testBit i && !c.testBit i) := by rw [Nat.testBit_and, tb_not hc]; simp [hi8]
        have hp := Nat.two_pow_pos i
        rw [nat_bit, bit_val, ht]
        cases c'.testBit i <;> cases c.testBit i <;> simp
      have hn : 2 ^ (i + 1) % 256 = 2 ^ i * 2 % 256 := by rw [Nat.pow_succ]
      have hs : (((2 ^ i : Nat) : Int) * 2) % 256 = ((2 ^ (i + 1) % 256 : Nat) : Int) := by rw [hn]; omega
      by_cases hb : c'.testBit i = true ∧ c.testBit i = false
      · have hb' : ¬ ((((c' &&& (255 - c)) &&& 2 ^ i : Nat)) : Int) = 0 := by
          have := mt hbit.1 (not_not_intro hb)
          exact_mod_cast this
        have hor : c ||| 2 ^ i < 256 := or_lt hc (pow_lt8 hi8)
        have hrest : (c' &&& (255 - c)) &&& (255 - 2 ^ i) = c' &&& (255 - (c ||| 2 ^ i)) := by
          refine ext8 (and_lt (and_lt hc')) (and_lt hc') fun p hp => ?_
          simp only [Nat.testBit_and, tb_not hc, tb_not (pow_lt8 hi8), tb_not hor, Nat.testBit_or]
          cases c'.testBit p <;> cases c.testBit p <;> cases (2 ^ i).testBit p <;> simp
        have e1 : v ||| (2 ^ i &&& (255 - v')) = if v'.testBit i = true then v else v ||| 2 ^ i := by
          have hx : 2 ^ i &&& (255 - v') = if v'.testBit i = true then 0 else 2 ^ i := by
            refine ext8 (and_lt (pow_lt8 hi8)) (by split; decide; exact pow_lt8 hi8) fun p hp => ?_
            rw [Nat.testBit_and, tb_not hv', tb_pow]
            by_cases hpi : i = p
            · subst hpi; cases v'.testBit i <;> simp [hp]
            · cases v'.testBit i <;> simp [hpi]
          rw [hx]; split <;> simp
        have e2 : v ||| (2 ^ i &&& v') = if v'.testBit i = true then v ||| 2 ^ i else v := by
          have hx : 2 ^ i &&& v' = if v'.testBit i = true then 2 ^ i else 0 := by
            refine ext8 (and_lt (pow_lt8 hi8)) (by split; exact pow_lt8 hi8; decide) fun p hp => ?_
            rw [Nat.testBit_and, tb_pow]
            by_cases hpi : i = p
            · subst hpi; cases v'.testBit i <;> simp
            · cases v'.testBit i <;> simp [hpi]
          rw [hx]; split <;> simp
        unfold minusN
        rw [if_pos hb]
        have hv2 : ∀ b, (saidB c v i b).2 < 256 := by intro b; unfold saidB; simp only; split; exact or_lt hv (pow_lt8 hi8); exact hv
        have hst : out ++ (saidB c v i (!v'.testBit i) :: minusN (saidB c v i (v'.testBit i)).1 (saidB c v i (v'.testBit i)).2 c' v' (i + 1) d).map toS
            = (out ++ [toS (saidB c v i (!v'.testBit i))]) ++ (minusN (saidB c v i (v'.testBit i)).1 (saidB c v i (v'.testBit i)).2 c' v' (i + 1) d).map toS := by simp
        rw [hst]
        refine Ev.step (fun k => ?_) (ih (i + 1) (saidB c v i (v'.testBit i)).1 (saidB c v i (v'.testBit i)).2 _ (by omega) hor (hv2 _) (by simp; omega) ?_)
        · simp only [cube_Minus.l0]
          rw [if_neg hz', h2, u8_and_nat _ _ (and_lt hc') (pow_lt8 hi8), if_neg hb', if_pos (by omega), u8_andNot_nat _ _ (and_lt hc') (pow_lt8 hi8), hrest,
            u8_or_nat c _ hc (pow_lt8 hi8), u8_andNot_nat _ v' (pow_lt8 hi8) hv', u8_and_nat _ v' (pow_lt8 hi8) hv', u8_or_nat v _ hv (and_lt (pow_lt8 hi8)), u8_or_nat v _ hv (and_lt (pow_lt8 hi8)), e1, e2, hs]
          unfold toS saidB
          cases v'.testBit i <;> rfl
        · intro p hp h4
          show (c ||| 2 ^ i).testBit p = true
          rw [Nat.testBit_or, tb_pow]
          by_cases hpi : i = p
          · simp [hpi]
          · rw [hd p (by omega) h4]; rfl
      · have hb' : ((((c' &&& (255 - c)) &&& 2 ^ i : Nat)) : Int) = 0 := by
          exact_mod_cast hbit.2 hb
        unfold minusN
        rw [if_neg hb]
        refine Ev.step (fun k => ?_) (ih (i + 1) c v out (by omega) hc hv (by omega) ?_)
        · simp only [cube_Minus.l0]
          rw [if_neg hz', h2, u8_and_nat _ _ (and_lt hc') (pow_lt8 hi8), if_pos hb', hs]
        · intro p hp h4
          by_cases hpi : p = i
          · subst hpi
            cases h5 : c.testBit p with
            | true => rfl
            | false => exact absurd ⟨h4, h5⟩ hb
          · exact hd p (by omega) h4

theorem pminus (c v c' v' : Nat) (hc : c < 256) (hv : v < 256) (hc' : c' < 256) (hv' : v' < 256) : Ev (fun k => cube_Minus.f k c v c' v') ((minusW c v c' v').map toS) := by
  unfold cube_Minus.f minusW
  rw [pmay c v hc hv, pmeet c v c' v' hc hv hc' hv']
  simp only [Option.bind_some]
  rcases Bool.eq_false_or_eq_true (mayB c v 0 8) with h | h
  · rcases Bool.eq_false_or_eq_true (MeetB c v c' v') with k | k
    · simp only [h, k, if_true]
      rw [u8_andNot_nat c' c hc' hc]
      exact pminus_loop c' v' hc' hv' 8 0 c v [] (by omega) hc hv (Nat.le_refl _) (fun p hp => by omega)
    · simp only [h, k, if_true]
      exact Ev.now _
  · simp only [h]
    exact Ev.now _

/-! ### The law -/
theorem wrap_inc {i : Nat} (h : i ≤ 1000000) : wrap64 ((i : Int) + 1) = ((i + 1 : Nat) : Int) := by unfold wrap64; omega
theorem rd_at (cs : List (Nat × Nat)) (i : Nat) (h : i < cs.length) : rd_T24 (cs.map toS) i = toS cs[i] := by
  unfold rd_T24
  simp [h, List.getD_eq_getElem?_getD]
/-- All letters from v on of the one are the other's. -/
def allB (c v c' v' i : Nat) : Nat → Bool
  | 0 => true
  | d + 1 => (!HasB c v i || HasB c' v' i) && allB c v c' v' (i + 1) d
theorem allB_iff (c v c' v' : Nat) (d : Nat) : ∀ i, allB c v c' v' i d = true ↔ ∀ l, i ≤ l → l < i + d → HasB c v l = true → HasB c' v' l = true := by
  induction d with
  | zero => intro i; simp only [allB, true_iff]; intro l h1 h2; omega
  | succ d ih =>
    intro i
    simp only [allB, Bool.and_eq_true, ih (i + 1)]
    constructor
    · intro ⟨h0, h⟩ l h1 h2 hl
      by_cases e : l = i
      · subst e; simpa [hl] using h0
      · exact h l (by omega) (by omega) hl
    · intro h
      refine ⟨?_, fun l h1 h2 => h l (by omega) (by omega)⟩
      cases hv : HasB c v i with
      | false => rfl
      | true => simp [h i (Nat.le_refl _) (by omega) hv]
theorem allB_within (c v c' v' : Nat) (hc : c < 256) (hv : v < 256) (hc' : c' < 256) (hv' : v' < 256) : allB c v c' v' 0 256 = WithinB c v c' v' := by
  rw [within_is c v c' v' hc hv hc' hv', Bool.eq_iff_iff, allB_iff, decide_eq_true_iff]
  unfold both
  rw [cnt_same (fun l h => by rw [Bool.and_eq_true] at h; simp [h.1])]
  constructor
  · intro h l _ hl hh
    rw [Bool.and_self] at hh
    rw [hh, h l (Nat.zero_le _) (by omega) hh]; rfl
  · intro h l _ hl hh
    have := h l (Nat.zero_le _) (by omega) (by rw [hh]; rfl)
    rw [Bool.and_eq_true] at this
    exact this.2
section
variable (c v c' v' : Nat) (hc : c < 256) (hv : v < 256) (hc' : c' < 256) (hv' : v' < 256)
/-- The answer's row, on the outer loop. -/
def Outer (w : Bool) (l : Nat) : Prop := Ev (fun k => rejoinderlaw02_CubeSets.l0 k (MeetB c v c' v') ((minusW c v c' v').map toS) w l c v c' v' (if MeetB c v c' v' = true then ((c ||| c' : Nat) : Int) else 0) (if MeetB c v c' v' = true then ((v ||| v' : Nat) : Int) else 0)) true
include hc hv hv' in
theorem inner (w : Bool) (l : Nat) (hl : l < 256) (ho : Outer c v c' v' w (l + 1)) (d : Nat) : ∀ (i n : Nat), i + d = (minusW c v c' v').length → n ≤ i → n + many l ((minusW c v c' v').drop i) = many l (minusW c v c' v') →
    Ev (fun k => rejoinderlaw02_CubeSets.l1 k (MeetB c v c' v') ((minusW c v c' v').map toS) w l l (HasB c v l) (HasB c' v' l) n i c v c' v' (if MeetB c v c' v' = true then ((c ||| c' : Nat) : Int) else 0) (if MeetB c v c' v' = true then ((v ||| v' : Nat) : Int) else 0)) true := by
  have hlen := @minusW_len c v c' v'
  have hlt := @minusW_lt c v c' v' hc hv
  have hmany := @minusW_many c v c' v' l hv hv'
  unfold Outer at ho
  generalize minusW c v c' v' = M at *
  induction d with
  | zero =>
    intro i n hi hn hh
    have h0 : many l (M.drop i) = 0 := by rw [List.drop_of_length_le (by omega)]; rfl
    have hnn : n = if (HasB c v l && !HasB c' v' l) = true then 1 else 0 := by omega
    refine Ev.step (fun k => ?_) ho
    simp only [rejoinderlaw02_CubeSets.l1]
    have e1 : ¬ (i : Int) < ((M.map toS).length : Int) := by rw [List.length_map]; omega
    have e2 : ¬ (n : Int) > 1 := by rw [hnn]; split <;> omega
    rw [if_neg e1, if_neg e2, wrap_inc (by omega), hnn]
    cases HasB c v l <;> cases HasB c' v' l <;> simp
  | succ d ih =>
    intro i n hi hn hh
    have hil : i < M.length := by omega
    have hd : M.drop i = M[i] :: M.drop (i + 1) := List.drop_eq_getElem_cons hil
    obtain ⟨b1, b2⟩ := hlt M[i] (List.getElem_mem hil)
    have hm : many l (M.drop i) = many l (M.drop (i + 1)) + if HasB M[i].1 M[i].2 l = true then 1 else 0 := by
      rw [hd]; unfold many; rw [List.countP_cons]
    have key := ih (i + 1) (n + if HasB M[i].1 M[i].2 l = true then 1 else 0) (by omega) (by split <;> omega) (by omega)
    refine Ev.step (fun k => ?_) key
    simp only [rejoinderlaw02_CubeSets.l1]
    have e1 : (i : Int) < ((M.map toS).length : Int) := by rw [List.length_map]; omega
    rw [if_pos e1, if_pos (by omega), rd_at M i hil]
    unfold toS
    simp only
    rw [phas _ _ l b1 b2 hl]
    simp only [Option.bind_some]
    rcases Bool.eq_false_or_eq_true (HasB M[i].1 M[i].2 l) with h | h
    · simp only [h, if_true]; rw [wrap_inc (by omega), wrap_inc (by omega)]
    · simp only [h, Bool.false_eq_true, if_false]; rw [wrap_inc (by omega)]; rfl
include hc hv hc' hv' in
theorem outer (d : Nat) : ∀ (l : Nat) (w : Bool), l + d = 256 → (w && allB c v c' v' l d) = WithinB c v c' v' → Outer c v c' v' w l := by
  induction d with
  | zero =>
    intro l w hl hw
    simp only [allB, Bool.and_true] at hw
    refine Ev.step (f := fun _ => some true) (fun k => ?_) (Ev.now _)
    simp only [rejoinderlaw02_CubeSets.l0]
    rw [if_neg (by omega), pwithin c v c' v' hc hv hc' hv']
    simp only [Option.bind_some]
    have h0 := phas 0 0 255 (by decide) (by decide) (by decide)
    have h1 : HasB 0 0 255 = true := by decide
    rw [h1] at h0
    rw [if_pos (by simp [hw])]
    exact congrArg (fun o => Option.bind o fun t139 => some t139) h0
  | succ d ih =>
    intro l w hl hw
    have hl8 : l < 256 := by omega
    have hn : ((l : Int)) % 256 = l := by omega
    have ho := ih (l + 1) (w && (!HasB c v l || HasB c' v' l)) (by omega) (by rw [← hw]; simp only [allB]; cases w <;> rfl)
    have hi := inner c v c' v' hc hv hv' (w && (!HasB c v l || HasB c' v' l)) l hl8 ho _ 0 0 (Nat.zero_add _) (Nat.le_refl _) (by rw [List.drop_zero, Nat.zero_add])
    -- the test on what both have
    have hmeet : ∀ k, (if HasB c v l = true then (if MeetB c v c' v' = true then ((cube_Has.f (if MeetB c v c' v' = true then ((c ||| c' : Nat) : Int) else 0) (if MeetB c v c' v' = true then ((v ||| v' : Nat) : Int) else 0) l).bind fun t142 => (rejoinderlaw02_CubeSets.j2 k (MeetB c v c' v') ((minusW c v c' v').map toS) (w && (!HasB c v l || HasB c' v' l)) l l (HasB c v l) (HasB c' v' l) (HasB c' v' l != t142) c v c' v' (if MeetB c v c' v' = true then ((c ||| c' : Nat) : Int) else 0) (if MeetB c v c' v' = true then ((v ||| v' : Nat) : Int) else 0))) else (rejoinderlaw02_CubeSets.j2 k (MeetB c v c' v') ((minusW c v c' v').map toS) (w && (!HasB c v l || HasB c' v' l)) l l (HasB c v l) (HasB c' v' l) (HasB c' v' l != false) c v c' v' (if MeetB c v c' v' = true then ((c ||| c' : Nat) : Int) else 0) (if MeetB c v c' v' = true then ((v ||| v' : Nat) : Int) else 0))) else (if MeetB c v c' v' = true then ((cube_Has.f (if MeetB c v c' v' = true then ((c ||| c' : Nat) : Int) else 0) (if MeetB c v c' v' = true then ((v ||| v' : Nat) : Int) else 0) l).bind fun t143 => (rejoinderlaw02_CubeSets.j2 k (MeetB c v c' v') ((minusW c v c' v').map toS) (w && (!HasB c v l || HasB c' v' l)) l l (HasB c v l) (HasB c' v' l) (false != t143) c v c' v' (if MeetB c v c' v' = true then ((c ||| c' : Nat) : Int) else 0) (if MeetB c v c' v' = true then ((v ||| v' : Nat) : Int) else 0))) else (rejoinderlaw02_CubeSets.j2 k (MeetB c v c' v') ((minusW c v c' v').map toS) (w && (!HasB c v l || HasB c' v' l)) l l (HasB c v l) (HasB c' v' l) (false != false) c v c' v' (if MeetB c v c' v' = true then ((c ||| c' : Nat) : Int) else 0) (if MeetB c v c' v' = true then ((v ||| v' : Nat) : Int) else 0)))) =
        rejoinderlaw02_CubeSets.j2 k (MeetB c v c' v') ((minusW c v c' v').map toS) (w && (!HasB c v l || HasB c' v' l)) l l (HasB c v l) (HasB c' v' l) false c v c' v' (if MeetB c v c' v' = true then ((c ||| c' : Nat) : Int) else 0) (if MeetB c v c' v' = true then ((v ||| v' : Nat) : Int) else 0) := by
      intro k
      rcases Bool.eq_false_or_eq_true (MeetB c v c' v') with hk | hk
      · obtain ⟨m1, m2, m3⟩ := (MeetB_iff hv hv').1 hk
        simp only [hk, if_true]
        rw [phas _ _ l (or_lt hc hc') (or_lt hv hv') hl8, meet_has m1 m2 m3]
        simp only [Option.bind_some]
        cases HasB c v l <;> cases HasB c' v' l <;> rfl
      · have hno : HasB c v l = true → HasB c' v' l = false := fun h1 => by
          cases h2 : HasB c' v' l with
          | false => rfl
          | true =>
            obtain ⟨k0, k1⟩ := (HasB_iff _ _ _).1 h1
            obtain ⟨k2, k3⟩ := (HasB_iff _ _ _).1 h2
            rw [(MeetB_iff hv hv').2 ⟨k0, k2, agree_of k1 k3⟩] at hk
            cases hk
        simp only [hk, Bool.false_eq_true, if_false]
        rcases Bool.eq_false_or_eq_true (HasB c v l) with h1 | h1
        · rw [if_pos h1, hno h1]; rfl
        · rw [if_neg (by simp [h1])]; rfl
    refine Ev.step (f := fun k => rejoinderlaw02_CubeSets.j1 k (MeetB c v c' v') ((minusW c v c' v').map toS) (w && (!HasB c v l || HasB c' v' l)) l l (HasB c v l) (HasB c' v' l) c v c' v' (if MeetB c v c' v' = true then ((c ||| c' : Nat) : Int) else 0) (if MeetB c v c' v' = true then ((v ||| v' : Nat) : Int) else 0)) (fun k => ?_) ?_
    · simp only [rejoinderlaw02_CubeSets.l0]
      rw [if_pos (by omega), hn, phas c v l hc hv hl8, phas c' v' l hc' hv' hl8]
      simp only [Option.bind_some]
      cases w <;> cases HasB c v l <;> cases HasB c' v' l <;> rfl
    · refine Ev.step (f := fun k => rejoinderlaw02_CubeSets.j2 k (MeetB c v c' v') ((minusW c v c' v').map toS) (w && (!HasB c v l || HasB c' v' l)) l l (HasB c v l) (HasB c' v' l) false c v c' v' (if MeetB c v c' v' = true then ((c ||| c' : Nat) : Int) else 0) (if MeetB c v c' v' = true then ((v ||| v' : Nat) : Int) else 0)) (fun k => ?_) ?_
      · simp only [rejoinderlaw02_CubeSets.j1]
        exact hmeet k
      · refine Ev.step (fun k => ?_) hi
        simp only [rejoinderlaw02_CubeSets.j2]
        rw [if_neg (by simp)]
        rfl
include hc hv hc' hv' in
theorem law : ∃ k, rejoinderlaw02_CubeSets.f k c v c' v' = some true := by
  apply Ev.rounds
  have ho := outer c v c' v' hc hv hc' hv' 256 0 true (by omega) (by rw [Bool.true_and]; exact allB_within c v c' v' hc hv hc' hv')
  unfold rejoinderlaw02_CubeSets.f
  rw [pmeet c v c' v' hc hv hc' hv']
  simp only [Option.bind_some]
  unfold Outer at ho
  rcases Bool.eq_false_or_eq_true (MeetB c v c' v') with hk | hk
  · simp only [hk, if_true] at ho ⊢
    exact Ev.bind (f := fun k t135 => rejoinderlaw02_CubeSets.l0 k true t135 true 0 c v c' v' ((c ||| c' : Nat) : Int) ((v ||| v' : Nat) : Int)) (pminus c v c' v' hc hv hc' hv') ho
  · simp only [hk, Bool.false_eq_true, if_false] at ho ⊢
    exact Ev.bind (f := fun k t135 => rejoinderlaw02_CubeSets.l0 k false t135 true 0 c v c' v' 0 0) (pminus c v c' v' hc hv hc' hv') ho
end
end Go.Proofs.Ytpnocpfagbfboaa.CPCubeSets
