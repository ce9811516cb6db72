/- Of any two cubes and any letter the program tells what the document's own functions tell. Conditions: none but that the numbers are bytes. -/
import Derived.Test.YtpnocpfagbfboaaRefCubeCalls
namespace Go.Proofs.Ytpnocpfagbfboaa.CPCubeCalls
open Go.RowKit Go.Proofs.Ytpnocpfagbfboaa.PCubeCalls Go.Proofs.YtpnocpfagbfboaaW.PrintWords Go.Proofs.YtpnocpfagbfboaaW.PrintLast Go.Proofs.YtpnocpfagbfboaaW.PrintMore Go.Proofs.Ytpnocpfagbfboaa.CubeNat Go.Proofs.Ytpnocpfagbfboaa.RPCubeCalls

theorem cast_zero (n : Nat) : ((n : Int) == 0) = decide (n = 0) := by
  by_cases h : n = 0
  · subst h; rfl
  · rw [decide_eq_false h, beq_eq_false_iff_ne]; omega
/-- The program's side. -/
theorem pmay (c v : Nat) (hc : c < 256) (hv : v < 256) : cube_may.f c v = some (mayB c v 0 8) := by
  unfold cube_may.f
  rw [u8_andNot_nat v c hv hc, cast_zero]
  congr 1
  rw [Bool.eq_iff_iff, decide_eq_true_iff, mayB_may]
  exact may_iff hc hv
theorem phas (c v l : Nat) (hc : c < 256) (hv : v < 256) (hl : l < 256) : cube_Has.f c v l = some (HasB c v l) := by
  unfold cube_Has.f
  rw [pmay c v hc hv]
  simp only [Option.bind_some]
  unfold HasB
  rcases Bool.eq_false_or_eq_true (mayB c v 0 8) with h | h
  · rw [if_pos h, u8_and_nat l c hl hc, h, Bool.true_and]
    congr 1
    rw [Bool.eq_iff_iff, beq_iff_eq, hasB_iff]
    have := has_iff (l := l) hc hv ((mayB_may c v).1 h)
    constructor
    · intro e p _ hp; exact this.1 (by exact_mod_cast e) p (by omega)
    · intro e; exact_mod_cast this.2 (fun p hp => e p (Nat.zero_le _) (by omega))
  · rw [if_neg (by simp [h]), h, Bool.false_and]

/-- Do both have a letter in common? -/
def MeetB (c v c' v' : Nat) : Bool := mayB c v 0 8 && (mayB c' v' 0 8 && decide (((v ^^^ v') &&& c) &&& c' = 0))
theorem MeetB_iff {c v c' v' : Nat} (hv : v < 256) (hv' : v' < 256) : MeetB c v c' v' = true ↔ (May c v ∧ May c' v' ∧ Agree c v c' v') := by
  unfold MeetB
  rw [Bool.and_eq_true, Bool.and_eq_true, mayB_may, mayB_may, decide_eq_true_iff, agree_iff hv hv']
theorem pmeet (c v c' v' : Nat) (hc : c < 256) (hv : v < 256) (hc' : c' < 256) (hv' : v' < 256) :
    cube_Meet.f c v c' v' = some (if MeetB c v c' v' = true then (((c ||| c' : Nat) : Int), ((v ||| v' : Nat) : Int), true) else (0, 0, false)) := by
  unfold cube_Meet.f
  rw [pmay c v hc hv, pmay c' v' hc' hv']
  simp only [Option.bind_some]
  rw [u8_xor_nat v v' hv hv', u8_and_nat _ c (xor_lt hv hv') hc, u8_and_nat _ c' (and_lt (xor_lt hv hv')) hc', u8_or_nat c c' hc hc', u8_or_nat v v' hv hv']
  unfold MeetB
  rcases Bool.eq_false_or_eq_true (mayB c v 0 8) with h | h
  · rcases Bool.eq_false_or_eq_true (mayB c' v' 0 8) with k | k
    · rw [if_pos h, if_pos k, h, k]
      simp only [Bool.true_and, decide_eq_true_eq]
      by_cases e : ((v ^^^ v') &&& c) &&& c' = 0
      · rw [if_pos e, if_pos (by exact_mod_cast e)]
      · rw [if_neg e, if_neg (by exact_mod_cast e)]
    · rw [if_pos h, if_neg (by simp [k]), h, k]; simp
  · rw [if_neg (by simp [h]), h]; simp
def WithinB (c v c' v' : Nat) : Bool := !(mayB c v 0 8) || (MeetB c v c' v' && (decide (c ||| c' = c) && decide (v ||| v' = v)))
theorem cast_beq (a b : Nat) : ((a : Int) == (b : Int)) = decide (a = b) := by
  by_cases h : a = b
  · subst h; simp
  · rw [decide_eq_false h, beq_eq_false_iff_ne]; omega
theorem pwithin (c v c' v' : Nat) (hc : c < 256) (hv : v < 256) (hc' : c' < 256) (hv' : v' < 256) :
    cube_Within.f c v c' v' = some (WithinB c v c' v') := by
  unfold cube_Within.f
  rw [pmay c v hc hv, pmeet c v c' v' hc hv hc' hv']
  simp only [Option.bind_some]
  unfold WithinB
  rcases Bool.eq_false_or_eq_true (mayB c v 0 8) with h | h
  · rw [if_pos h, h]
    rcases Bool.eq_false_or_eq_true (MeetB c v c' v') with k | k
    · simp only [k, if_true, cast_beq]; simp
    · simp [k]
  · rw [if_neg (by simp [h]), h]; simp
theorem within_is (c v c' v' : Nat) (hc : c < 256) (hv : v < 256) (hc' : c' < 256) (hv' : v' < 256) :
    WithinB c v c' v' = decide (both c v c' v' = both c v c v) := by
  rw [Bool.eq_iff_iff, decide_eq_true_iff, both_within c v c' v' hc hv hc' hv']
  unfold WithinB
  rw [Bool.or_eq_true, Bool.and_eq_true, Bool.and_eq_true, MeetB_iff hv hv', decide_eq_true_iff, decide_eq_true_iff, Bool.not_eq_true', ← Bool.not_eq_true, mayB_may]
  constructor
  · rintro (h | ⟨⟨_, h2, h3⟩, h4, h5⟩) hm
    · exact absurd hm h
    · exact ⟨h2, h3, h4, h5⟩
  · intro h
    by_cases hm : May c v
    · obtain ⟨h2, h3, h4, h5⟩ := h hm
      exact .inr ⟨⟨hm, h2, h3⟩, h4, h5⟩
    · exact .inl hm
theorem meet_is (c v c' v' : Nat) (hv : v < 256) (hv' : v' < 256) : MeetB c v c' v' = !decide (both c v c' v' = 0) := by
  rw [Bool.eq_iff_iff, MeetB_iff hv hv', Bool.not_eq_true', decide_eq_false_iff_not, both_zero c v c' v' hv hv', Classical.not_not]
theorem may_is (c v : Nat) (hv : v < 256) : mayB c v 0 8 = !decide (both c v c v = 0) := by
  rw [Bool.eq_iff_iff, mayB_may, Bool.not_eq_true', decide_eq_false_iff_not, both_own c v hv, Classical.not_not]

/-- Meet, Within, beside the document's. -/
theorem rmeet (c v c' v' : Nat) (hc : c < 256) (hv : v < 256) (hc' : c' < 256) (hv' : v' < 256) :
    Ev (fun k => rejoinderref02_Meet.f k c v c' v') (if MeetB c v c' v' = true then (((c ||| c' : Nat) : Int), ((v ||| v' : Nat) : Int), true) else (0, 0, false)) := by
  refine Ev.congr (f := fun k => (rejoinderref02_both.f k c v c' v').bind fun t157 => (if t157 = 0 then (some (0, 0, false)) else (some (Go.bits .or .u8 c c', Go.bits .or .u8 v v', true)))) (fun k => rfl) ?_
  refine Ev.bind (f := fun k t157 => (if t157 = 0 then (some (0, 0, false)) else (some (Go.bits .or .u8 c c', Go.bits .or .u8 v v', true)))) (both_ev c v c' v' hc hv hc' hv') ?_
  rw [meet_is c v c' v' hv hv', u8_or_nat c c' hc hc', u8_or_nat v v' hv hv']
  by_cases h : both c v c' v' = 0
  · simpa [h] using Ev.now (0, 0, false)
  · have h' : ¬ ((both c v c' v' : Nat) : Int) = 0 := by exact_mod_cast h
    simp only [if_neg h', decide_eq_false h, Bool.not_false, if_true]
    exact Ev.now _
theorem rwithin (c v c' v' : Nat) (hc : c < 256) (hv : v < 256) (hc' : c' < 256) (hv' : v' < 256) :
    Ev (fun k => rejoinderref02_Within.f k c v c' v') (WithinB c v c' v') := by
  refine Ev.congr (f := fun k => (rejoinderref02_both.f k c v c' v').bind fun t152 => ((rejoinderref02_both.f k c v c v).bind fun t153 => (some (t152 == t153)))) (fun k => rfl) ?_
  refine Ev.bind (f := fun k t152 => ((rejoinderref02_both.f k c v c v).bind fun t153 => (some (t152 == t153)))) (both_ev c v c' v' hc hv hc' hv') ?_
  refine Ev.bind (f := fun k t153 => (some (((both c v c' v' : Nat) : Int) == t153))) (both_ev c v c v hc hv hc hv) ?_
  rw [within_is c v c' v' hc hv hc' hv', cast_beq]
  exact Ev.now _

/-! ### Check -/
theorem pall (n : Nat) (h : n ≤ 8) : cube_all.f n = some (((2 ^ n - 1 : Nat) : Int)) := by
  have : n = 0 ∨ n = 1 ∨ n = 2 ∨ n = 3 ∨ n = 4 ∨ n = 5 ∨ n = 6 ∨ n = 7 ∨ n = 8 := by omega
  rcases this with rfl | rfl | rfl | rfl | rfl | rfl | rfl | rfl | rfl <;> decide +kernel
theorem mask_lt {n : Nat} (h : n ≤ 8) : 2 ^ n - 1 < 256 := by
  have := Nat.pow_le_pow_right (n := 2) (by decide) h
  omega
def outB (c i : Nat) : Nat → Bool
  | 0 => false
  | d + 1 => c.testBit i || outB c (i + 1) d
theorem outB_iff (c : Nat) (d : Nat) : ∀ i, outB c i d = true ↔ ∃ p, i ≤ p ∧ p < i + d ∧ c.testBit p = true := by
  induction d with
  | zero => intro i; simp only [outB, Bool.false_eq_true, false_iff]; rintro ⟨p, h1, h2, _⟩; omega
  | succ d ih =>
    intro i
    simp only [outB, Bool.or_eq_true, ih (i + 1)]
    constructor
    · rintro (h | ⟨p, h1, h2, h⟩)
      · exact ⟨i, Nat.le_refl _, by omega, h⟩
      · exact ⟨p, by omega, by omega, h⟩
    · rintro ⟨p, h1, h2, h⟩
      by_cases e : p = i
      · subst e; exact .inl h
      · exact .inr ⟨p, by omega, by omega, h⟩
theorem out_iff {c n : Nat} (hc : c < 256) (hn : n ≤ 8) : c &&& (255 - (2 ^ n - 1)) = 0 ↔ outB c n (8 - n) = false := by
  rw [← Bool.not_eq_true, outB_iff]
  constructor
  · rintro h ⟨p, h1, h2, h3⟩
    have := congrArg (fun x => x.testBit p) h
    have hp : ¬ p < n := by omega
    simp only [Nat.testBit_and, tb_not (mask_lt hn), h3, Nat.zero_testBit, Nat.testBit_two_pow_sub_one, decide_eq_false hp] at this
    simp at this
    omega
  · intro h
    refine ext8 (and_lt hc) (by decide) fun p hp => ?_
    simp only [Nat.testBit_and, tb_not (mask_lt hn), Nat.zero_testBit, Nat.testBit_two_pow_sub_one]
    by_cases hpn : p < n
    · simp [hpn]
    · cases h3 : c.testBit p with
      | false => simp
      | true => exact absurd ⟨p, by omega, by omega, h3⟩ h
def checkI (a : Int) (c v : Nat) : Int := if 0 ≤ a ∧ a ≤ 8 then (if outB c a.toNat (8 - a.toNat) = true then 120 else if mayB c v 0 8 = true then 0 else 120) else 2
theorem pcheck (a : Int) (c v : Nat) (hc : c < 256) (hv : v < 256) : cube_Check.f a c v = some (checkI a c v) := by
  unfold cube_Check.f cube_bound.f checkI
  by_cases h0 : 0 ≤ a
  · by_cases h8 : a ≤ 8
    · rw [if_pos h0, decide_eq_true h8, if_pos ⟨h0, h8⟩]
      simp only [Option.bind_some, if_true]
      rw [pmay c v hc hv]
      simp only [Option.bind_some]
      obtain ⟨n, rfl⟩ := Int.eq_ofNat_of_zero_le h0
      have hn : n ≤ 8 := by omega
      rw [pall n hn, Int.toNat_natCast]
      simp only [Option.bind_some]
      rw [u8_andNot_nat c _ hc (mask_lt hn)]
      have ho := out_iff hc hn
      rcases Bool.eq_false_or_eq_true (mayB c v 0 8) with h | h
      · rw [if_pos h]
        rcases Bool.eq_false_or_eq_true (outB c n (8 - n)) with k | k
        · rw [if_pos k, if_neg]
          intro e
          rw [ho.1 (by exact_mod_cast e)] at k
          cases k
        · rw [if_neg (show ¬ outB c n (8 - n) = true by simp [k]), if_pos (show ((c &&& (255 - (2 ^ n - 1)) : Nat) : Int) = 0 by exact_mod_cast ho.2 k), h]; rfl
      · rw [if_neg (by simp [h]), if_neg (show ¬ mayB c v 0 8 = true by simp [h])]
        split <;> rfl
    · rw [if_pos h0, decide_eq_false h8, if_neg (fun h => h8 h.2)]; rfl
  · rw [if_neg h0, if_neg (fun h => h0 h.1)]; rfl
theorem rcheck_loop (c v : Nat) (hc : c < 256) (hv : v < 256) (d : Nat) : ∀ i : Nat, i + d = 8 →
    Ev (fun k => rejoinderref02_Check.l0 k i c v) (if outB c i d = true then 120 else if mayB c v 0 8 = true then 0 else 120) := by
  induction d with
  | zero =>
    intro i hi
    refine Ev.step (f := fun k => (rejoinderref02_may.f k c v).bind fun t138 => (if t138 = true then (some 0) else (some 120))) (fun k => by simp only [rejoinderref02_Check.l0]; rw [if_neg (by omega)]) ?_
    refine Ev.bind (f := fun k t138 => (if t138 = true then (some 0) else (some 120))) (may_ev c v hc hv) ?_
    simp only [outB]
    rcases Bool.eq_false_or_eq_true (mayB c v 0 8) with h | h
    · simpa [h] using Ev.now (0 : Int)
    · simpa [h] using Ev.now (120 : Int)
  | succ d ih =>
    intro i hi
    refine Ev.step (f := fun k => (rejoinderref02_Bit.f k c i).bind fun t137 => (if t137 = 1 then (some 120) else (rejoinderref02_Check.l0 k ((i + 1 : Nat) : Int) c v))) (fun k => by simp only [rejoinderref02_Check.l0]; rw [if_pos (by omega), wrap_inc (by omega)]) ?_
    refine Ev.bind (f := fun k t137 => (if t137 = 1 then (some 120) else (rejoinderref02_Check.l0 k ((i + 1 : Nat) : Int) c v))) (bit_ev c i hc (by omega)) ?_
    simp only [outB]
    rcases Bool.eq_false_or_eq_true (c.testBit i) with h | h
    · simpa [h] using Ev.now (120 : Int)
    · simpa [h] using ih (i + 1) (by omega)
theorem rcheck (a : Int) (c v : Nat) (hc : c < 256) (hv : v < 256) : Ev (fun k => rejoinderref02_Check.f k a c v) (checkI a c v) := by
  unfold checkI
  by_cases h0 : a < 0
  · refine Ev.congr (f := fun k => rejoinderref02_Check.j0 k a true c v) (fun k => by unfold rejoinderref02_Check.f; rw [if_pos h0]) ?_
    rw [if_neg (by omega)]
    exact Ev.step (f := fun _ => some 2) (fun k => by simp [rejoinderref02_Check.j0]) (Ev.now _)
  · by_cases h8 : a > 8
    · refine Ev.congr (f := fun k => rejoinderref02_Check.j0 k a true c v) (fun k => by unfold rejoinderref02_Check.f; rw [if_neg h0, decide_eq_true h8]) ?_
      rw [if_neg (by omega)]
      exact Ev.step (f := fun _ => some 2) (fun k => by simp [rejoinderref02_Check.j0]) (Ev.now _)
    · obtain ⟨n, rfl⟩ := Int.eq_ofNat_of_zero_le (by omega : 0 ≤ a)
      refine Ev.congr (f := fun k => rejoinderref02_Check.j0 k n false c v) (fun k => by unfold rejoinderref02_Check.f; rw [if_neg h0, decide_eq_false h8]) ?_
      rw [if_pos (by omega), Int.toNat_natCast]
      exact Ev.step (f := fun k => rejoinderref02_Check.l0 k n c v) (fun k => by simp only [rejoinderref02_Check.j0]; rw [if_neg (by simp)]) (rcheck_loop c v hc hv (8 - n) n (by omega))

/-! ### Minus -/
theorem pow_le (i : Nat) (h : i < 8) : 2 ^ i ≤ 128 := Nat.pow_le_pow_right (n := 2) (i := i) (j := 7) (by decide) (by omega)
theorem say_loop (b : Int) (c v : Nat) (hc : c < 256) (hv : v < 256) (p : Nat) (hp : p < 8) (d : Nat) : ∀ i : Nat, i + d = p →
    Ev (fun k => rejoinderref02_say.l0 k p b (2 ^ i : Nat) i c v)
      (((c ||| 2 ^ p : Nat) : Int), if b = 1 then ((v ||| 2 ^ p : Nat) : Int) else (v : Int)) := by
  induction d with
  | zero =>
    intro i hi
    obtain rfl : i = p := by omega
    refine Ev.of (fun k => (rejoinderref02_say.mono_l k) _ _ _ _ _ _) (k := 1) ?_
    have hs : (((2 ^ i : Nat) : Int) % 256) = ((2 ^ i : Nat) : Int) := by
      have := pow_le i hp
      generalize 2 ^ i = m at *
      omega
    simp only [rejoinderref02_say.l0]
    rw [if_neg (by omega), hs, u8_or_nat c _ hc (pow_lt8 hp), u8_or_nat v _ hv (pow_lt8 hp)]
    split <;> rfl
  | succ d ih =>
    intro i hi
    refine Ev.step (f := fun k => rejoinderref02_say.l0 k p b (2 ^ (i + 1) : Nat) ((i + 1 : Nat) : Int) c v) (fun k => ?_) (ih (i + 1) (by omega))
    simp only [rejoinderref02_say.l0]
    rw [if_pos (by omega), wrap_inc (by omega)]
    have hw : wrap64 (2 * ((2 ^ i : Nat) : Int)) = ((2 ^ (i + 1) : Nat) : Int) := by
      have := pow_le i (by omega)
      rw [Nat.pow_succ]
      generalize 2 ^ i = m at *
      unfold wrap64; omega
    rw [hw]
theorem say_ev (b : Int) (c v : Nat) (hc : c < 256) (hv : v < 256) (p : Nat) (hp : p < 8) :
    Ev (fun k => rejoinderref02_say.f k c v p b) (((c ||| 2 ^ p : Nat) : Int), if b = 1 then ((v ||| 2 ^ p : Nat) : Int) else (v : Int)) :=
  say_loop b c v hc hv p hp p 0 (by omega)

/-- A proposition that the second cube says and the first does not: one cube more, and the first goes on. -/
def minusL (out : List S24) (c v c' v' i : Nat) : Nat → List S24
  | 0 => out
  | d + 1 =>
    if c'.testBit i = true ∧ c.testBit i = false then
      minusL (out ++ [⟨((c ||| 2 ^ i : Nat) : Int), (if v'.testBit i = true then (v : Int) else ((v ||| 2 ^ i : Nat) : Int))⟩]) (c ||| 2 ^ i) (if v'.testBit i = true then v ||| 2 ^ i else v) c' v' (i + 1) d
    else minusL out c v c' v' (i + 1) d
theorem minusL_none (out : List S24) (c v c' v' : Nat) (d : Nat) : ∀ i, (∀ p, i ≤ p → p < i + d → c'.testBit p = true → c.testBit p = true) → minusL out c v c' v' i d = out := by
  induction d with
  | zero => intro i _; rfl
  | succ d ih =>
    intro i h
    unfold minusL
    rw [if_neg, ih (i + 1) (fun p h1 h2 => h p (by omega) (by omega))]
    rintro ⟨h1, h2⟩
    rw [h i (Nat.le_refl _) (by omega) h1] at h2
    cases h2
theorem pminus_loop (c' v' : Nat) (hc' : c' < 256) (hv' : v' < 256) (d : Nat) : ∀ (i c v : Nat) (out : List S24), i + d = 8 → c < 256 → v < 256 → out.length ≤ i →
    (∀ p, p < i → c'.testBit p = true → c.testBit p = true) →
    Ev (fun k => cube_Minus.l0 k out ((2 ^ i % 256 : Nat) : Int) ((c' &&& (255 - c) : Nat) : Int) c v c' v') (minusL out c v c' v' i d) := by
  induction d with
  | zero =>
    intro i c v out hi hc hv _ hd
    refine Ev.of (fun k => (cube_Minus.mono_l k) _ _ _ _ _ _ _) (k := 1) ?_
    simp only [cube_Minus.l0, minusL]
    have : c' &&& (255 - c) = 0 := by
      refine ext8 (and_lt hc') (by decide) fun p hp => ?_
      rw [Nat.testBit_and, tb_not hc, Nat.zero_testBit]
      cases h : c'.testBit p with
      | false => rfl
      | true => rw [hd p (by omega) h]; simp
    rw [this]; rfl
  | succ d ih =>
    intro i c v out hi hc hv hl hd
    have hi8 : i < 8 := by omega
    have h2 : 2 ^ i % 256 = 2 ^ i := Nat.mod_eq_of_lt (pow_lt8 hi8)
    by_cases hz : c' &&& (255 - c) = 0
    · rw [minusL_none]
      · refine Ev.of (fun k => (cube_Minus.mono_l k) _ _ _ _ _ _ _) (k := 1) ?_
        simp only [cube_Minus.l0]
        rw [hz]; rfl
      · intro p h1 h3 h4
        have := congrArg (fun x => x.testBit p) hz
        simp only [Nat.testBit_and, tb_not hc, h4, Nat.zero_testBit] at this
        have hp : p < 8 := by omega
        simpa [hp] using this
    · have hz' : ¬ ((c' &&& (255 - c) : Nat) : Int) = 0 := by exact_mod_cast hz
      have hbit : (c' &&& (255 - c)) &&& 2 ^ i = 0 ↔ ¬ (c'.testBit i = true ∧ c.testBit i = false) := by
        have ht : (c' &&& (255 - c)).testBit i = (c'.testBit i && !c.testBit i) := by rw [Nat.testBit_and, tb_not hc]; simp [hi8]
        have hp := Nat.two_pow_pos i
        rw [nat_bit, bit_val, ht]
        cases c'.testBit i <;> cases c.testBit i <;> simp
      have hn : 2 ^ (i + 1) % 256 = 2 ^ i * 2 % 256 := by rw [Nat.pow_succ]
      have hs : (((2 ^ i : Nat) : Int) * 2) % 256 = ((2 ^ (i + 1) % 256 : Nat) : Int) := by rw [hn]; omega
      by_cases hb : c'.testBit i = true ∧ c.testBit i = false
      · have hb' : ¬ ((((c' &&& (255 - c)) &&& 2 ^ i : Nat)) : Int) = 0 := by
          have := mt hbit.1 (not_not_intro hb)
          exact_mod_cast this
        have hor : c ||| 2 ^ i < 256 := or_lt hc (pow_lt8 hi8)
        have hrest : (c' &&& (255 - c)) &&& (255 - 2 ^ i) = c' &&& (255 - (c ||| 2 ^ i)) := by
          refine ext8 (and_lt (and_lt hc')) (and_lt hc') fun p hp => ?_
          simp only [Nat.testBit_and, tb_not hc, tb_not (pow_lt8 hi8), tb_not hor, Nat.testBit_or]
          cases c'.testBit p <;> cases c.testBit p <;> cases (2 ^ i).testBit p <;> simp
        have e1 : v ||| (2 ^ i &&& (255 - v')) = if v'.testBit i = true then v else v ||| 2 ^ i := by
          have hx : 2 ^ i &&& (255 - v') = if v'.testBit i = true then 0 else 2 ^ i := by
            refine ext8 (and_lt (pow_lt8 hi8)) (by split; decide; exact pow_lt8 hi8) fun p hp => ?_
            rw [Nat.testBit_and, tb_not hv', tb_pow]
            by_cases hpi : i = p
            · subst hpi; cases v'.testBit i <;> simp [hp]
            · cases v'.testBit i <;> simp [hpi]
          rw [hx]; split <;> simp
        have e2 : v ||| (2 ^ i &&& v') = if v'.testBit i = true then v ||| 2 ^ i else v := by
          have hx : 2 ^ i &&& v' = if v'.testBit i = true then 2 ^ i else 0 := by
            refine ext8 (and_lt (pow_lt8 hi8)) (by split; exact pow_lt8 hi8; decide) fun p hp => ?_
            rw [Nat.testBit_and, tb_pow]
            by_cases hpi : i = p
            · subst hpi; cases v'.testBit i <;> simp
            · cases v'.testBit i <;> simp [hpi]
          rw [hx]; split <;> simp
        unfold minusL
        rw [if_pos hb]
        have hv2 : (if v'.testBit i = true then v ||| 2 ^ i else v) < 256 := by split; exact or_lt hv (pow_lt8 hi8); exact hv
        refine Ev.step (fun k => ?_) (ih (i + 1) (c ||| 2 ^ i) (if v'.testBit i = true then v ||| 2 ^ i else v) _ (by omega) hor hv2 (by simp; omega) ?_)
        · simp only [cube_Minus.l0]
          rw [if_neg hz', h2, u8_and_nat _ _ (and_lt hc') (pow_lt8 hi8), if_neg hb', if_pos (by omega), u8_andNot_nat _ _ (and_lt hc') (pow_lt8 hi8), hrest,
            u8_or_nat c _ hc (pow_lt8 hi8), u8_andNot_nat _ v' (pow_lt8 hi8) hv', u8_and_nat _ v' (pow_lt8 hi8) hv', u8_or_nat v _ hv (and_lt (pow_lt8 hi8)), u8_or_nat v _ hv (and_lt (pow_lt8 hi8)), e1, e2, hs]
          congr 3
          split <;> rfl
        · intro p hp h4
          rw [Nat.testBit_or, tb_pow]
          by_cases hpi : i = p
          · simp [hpi]
          · rw [hd p (by omega) h4]; rfl
      · have hb' : ((((c' &&& (255 - c)) &&& 2 ^ i : Nat)) : Int) = 0 := by
          exact_mod_cast hbit.2 hb
        unfold minusL
        rw [if_neg hb]
        refine Ev.step (fun k => ?_) (ih (i + 1) c v out (by omega) hc hv (by omega) ?_)
        · simp only [cube_Minus.l0]
          rw [if_neg hz', h2, u8_and_nat _ _ (and_lt hc') (pow_lt8 hi8), if_pos hb', hs]
        · intro p hp h4
          by_cases hpi : p = i
          · subst hpi
            cases h5 : c.testBit p with
            | true => rfl
            | false => exact absurd ⟨h4, h5⟩ hb
          · exact hd p (by omega) h4
def minusA (c v c' v' : Nat) : List S24 := if mayB c v 0 8 = true then (if MeetB c v c' v' = true then minusL [] c v c' v' 0 8 else [⟨c, v⟩]) else []
theorem pminus (c v c' v' : Nat) (hc : c < 256) (hv : v < 256) (hc' : c' < 256) (hv' : v' < 256) : Ev (fun k => cube_Minus.f k c v c' v') (minusA c v c' v') := by
  unfold cube_Minus.f minusA
  rw [pmay c v hc hv, pmeet c v c' v' hc hv hc' hv']
  simp only [Option.bind_some]
  rcases Bool.eq_false_or_eq_true (mayB c v 0 8) with h | h
  · rcases Bool.eq_false_or_eq_true (MeetB c v c' v') with k | k
    · simp only [h, k, if_true]
      rw [u8_andNot_nat c' c hc' hc]
      exact pminus_loop c' v' hc' hv' 8 0 c v [] (by omega) hc hv (Nat.le_refl _) (fun p hp => by omega)
    · simp only [h, k, if_true]
      exact Ev.now _
  · simp only [h]
    exact Ev.now _
theorem sd_neg {c v p : Nat} : sd c v p < 0 ↔ c.testBit p = false := by
  unfold sd
  cases c.testBit p <;> simp
theorem rminus_loop (c' v' : Nat) (hc' : c' < 256) (hv' : v' < 256) (d : Nat) : ∀ (i c v : Nat) (out : List S24), i + d = 8 → c < 256 → v < 256 → out.length ≤ i →
    Ev (fun k => rejoinderref02_Minus.l0 k out i c v c' v') (minusL out c v c' v' i d) := by
  induction d with
  | zero =>
    intro i c v out hi hc hv _
    refine Ev.of (fun k => (rejoinderref02_Minus.mono_l k).1 _ _ _ _ _ _) (k := 1) ?_
    simp only [rejoinderref02_Minus.l0, minusL]
    rw [if_neg (by omega)]
  | succ d ih =>
    intro i c v out hi hc hv hl
    have hi8 : i < 8 := by omega
    have hor : c ||| 2 ^ i < 256 := or_lt hc (pow_lt8 hi8)
    refine Ev.step (f := fun k => (rejoinderref02_said.f k c' v' i).bind fun t167 => (if t167 ≥ 0 then ((rejoinderref02_said.f k c v i).bind fun t168 => (rejoinderref02_Minus.j1 k out i (decide (t168 < 0)) c v c' v')) else (rejoinderref02_Minus.j1 k out i false c v c' v'))) (fun k => by simp only [rejoinderref02_Minus.l0]; rw [if_pos (by omega)]) ?_
    refine Ev.bind (f := fun k t167 => (if t167 ≥ 0 then ((rejoinderref02_said.f k c v i).bind fun t168 => (rejoinderref02_Minus.j1 k out i (decide (t168 < 0)) c v c' v')) else (rejoinderref02_Minus.j1 k out i false c v c' v'))) (said_ev c' v' i hc' hv' (by omega)) ?_
    have hno : ¬ (c'.testBit i = true ∧ c.testBit i = false) → Ev (fun k => rejoinderref02_Minus.j1 k out i false c v c' v') (minusL out c v c' v' i (d + 1)) := by
      intro hb
      unfold minusL
      rw [if_neg hb]
      refine Ev.step (fun k => ?_) (ih (i + 1) c v out (by omega) hc hv (by omega))
      simp only [rejoinderref02_Minus.j1]
      rw [if_neg (by simp), wrap_inc (by omega)]
    by_cases h1 : c'.testBit i = true
    · have hge : sd c' v' i ≥ 0 := by
        have := mt (sd_neg (c := c') (v := v') (p := i)).1 (by simp [h1]); omega
      refine Ev.congr (f := fun k => (rejoinderref02_said.f k c v i).bind fun t168 => (rejoinderref02_Minus.j1 k out i (decide (t168 < 0)) c v c' v')) (fun k => by rw [if_pos hge]) ?_
      refine Ev.bind (f := fun k t168 => rejoinderref02_Minus.j1 k out i (decide (t168 < 0)) c v c' v') (said_ev c v i hc hv (by omega)) ?_
      by_cases h2 : c.testBit i = false
      · rw [decide_eq_true (sd_neg.2 h2)]
        have hsd : sd c' v' i = (((v'.testBit i).toNat : Nat) : Int) := by unfold sd; rw [if_pos h1]
        unfold minusL
        rw [if_pos ⟨h1, h2⟩]
        refine Ev.step (f := fun k => (rejoinderref02_said.f k c' v' i).bind fun t169 => ((rejoinderref02_say.f k c v i (wrap64 (1 - t169))).bind fun bt170 => ((rejoinderref02_said.f k c' v' i).bind fun t175 => ((rejoinderref02_say.f k c v i t175).bind fun bt176 => (rejoinderref02_Minus.l0 k (out ++ [(⟨bt170.1, bt170.2⟩ : S24)]) ((i + 1 : Nat) : Int) bt176.1 bt176.2 c' v'))))) (fun k => by simp only [rejoinderref02_Minus.j1, if_true]; rw [wrap_inc (by omega)]; simp only [if_pos (show out.length < 70368744177664 by omega)]) ?_
        refine Ev.bind (f := fun k t169 => ((rejoinderref02_say.f k c v i (wrap64 (1 - t169))).bind fun bt170 => ((rejoinderref02_said.f k c' v' i).bind fun t175 => ((rejoinderref02_say.f k c v i t175).bind fun bt176 => (rejoinderref02_Minus.l0 k (out ++ [(⟨bt170.1, bt170.2⟩ : S24)]) ((i + 1 : Nat) : Int) bt176.1 bt176.2 c' v'))))) (said_ev c' v' i hc' hv' (by omega)) ?_
        refine Ev.bind (f := fun k bt170 => ((rejoinderref02_said.f k c' v' i).bind fun t175 => ((rejoinderref02_say.f k c v i t175).bind fun bt176 => (rejoinderref02_Minus.l0 k (out ++ [(⟨bt170.1, bt170.2⟩ : S24)]) ((i + 1 : Nat) : Int) bt176.1 bt176.2 c' v')))) (say_ev (wrap64 (1 - sd c' v' i)) c v hc hv i hi8) ?_
        refine Ev.bind (f := fun k t175 => ((rejoinderref02_say.f k c v i t175).bind fun bt176 => (rejoinderref02_Minus.l0 k (out ++ [(⟨((c ||| 2 ^ i : Nat) : Int), if wrap64 (1 - sd c' v' i) = 1 then ((v ||| 2 ^ i : Nat) : Int) else (v : Int)⟩ : S24)]) ((i + 1 : Nat) : Int) bt176.1 bt176.2 c' v'))) (said_ev c' v' i hc' hv' (by omega)) ?_
        refine Ev.bind (f := fun k bt176 => rejoinderref02_Minus.l0 k (out ++ [(⟨((c ||| 2 ^ i : Nat) : Int), if wrap64 (1 - sd c' v' i) = 1 then ((v ||| 2 ^ i : Nat) : Int) else (v : Int)⟩ : S24)]) ((i + 1 : Nat) : Int) bt176.1 bt176.2 c' v') (say_ev (sd c' v' i) c v hc hv i hi8) ?_
        have hv2 : (if v'.testBit i = true then v ||| 2 ^ i else v) < 256 := by split; exact or_lt hv (pow_lt8 hi8); exact hv
        have := ih (i + 1) (c ||| 2 ^ i) (if v'.testBit i = true then v ||| 2 ^ i else v) (out ++ [⟨((c ||| 2 ^ i : Nat) : Int), (if v'.testBit i = true then (v : Int) else ((v ||| 2 ^ i : Nat) : Int))⟩]) (by omega) hor hv2 (by simp; omega)
        rw [hsd]
        cases hvb : v'.testBit i with
        | true => simpa [hvb, wrap64] using this
        | false => simpa [hvb, wrap64] using this
      · rw [decide_eq_false (mt sd_neg.1 h2)]
        exact hno (fun h => h2 h.2)
    · have hlt : ¬ sd c' v' i ≥ 0 := by
        have := (sd_neg (c := c') (v := v') (p := i)).2 (by simpa using h1); omega
      refine Ev.congr (f := fun k => rejoinderref02_Minus.j1 k out i false c v c' v') (fun k => by rw [if_neg hlt]) ?_
      exact hno (fun h => h1 h.1)
theorem rminus (c v c' v' : Nat) (hc : c < 256) (hv : v < 256) (hc' : c' < 256) (hv' : v' < 256) : Ev (fun k => rejoinderref02_Minus.f k c v c' v') (minusA c v c' v') := by
  refine Ev.congr (f := fun k => (rejoinderref02_both.f k c v c v).bind fun t162 => (if t162 = 0 then (some ([] : List (S24))) else ((rejoinderref02_both.f k c v c' v').bind fun t163 => (if t163 = 0 then (some (([(⟨c, v⟩ : S24)] : List (S24)))) else (rejoinderref02_Minus.l0 k ([] : List (S24)) 0 c v c' v'))))) (fun k => rfl) ?_
  refine Ev.bind (f := fun k t162 => (if t162 = 0 then (some ([] : List (S24))) else ((rejoinderref02_both.f k c v c' v').bind fun t163 => (if t163 = 0 then (some (([(⟨c, v⟩ : S24)] : List (S24)))) else (rejoinderref02_Minus.l0 k ([] : List (S24)) 0 c v c' v'))))) (both_ev c v c v hc hv hc hv) ?_
  unfold minusA
  rw [may_is c v hv, meet_is c v c' v' hv hv']
  by_cases h0 : both c v c v = 0
  · simpa [h0] using Ev.now _
  · have h0' : ¬ ((both c v c v : Nat) : Int) = 0 := by exact_mod_cast h0
    refine Ev.congr (f := fun k => ((rejoinderref02_both.f k c v c' v').bind fun t163 => (if t163 = 0 then (some (([(⟨c, v⟩ : S24)] : List (S24)))) else (rejoinderref02_Minus.l0 k ([] : List (S24)) 0 c v c' v')))) (fun k => by rw [if_neg h0']) ?_
    refine Ev.bind (f := fun k t163 => (if t163 = 0 then (some (([(⟨c, v⟩ : S24)] : List (S24)))) else (rejoinderref02_Minus.l0 k ([] : List (S24)) 0 c v c' v'))) (both_ev c v c' v' hc hv hc' hv') ?_
    by_cases h1 : both c v c' v' = 0
    · simpa [h0, h1] using Ev.now _
    · have h1' : ¬ ((both c v c' v' : Nat) : Int) = 0 := by exact_mod_cast h1
      simp only [decide_eq_false h0, decide_eq_false h1, Bool.not_false, if_true, if_neg h1']
      exact rminus_loop c' v' hc' hv' 8 0 c v [] (by omega) hc hv (Nat.le_refl _)
end Go.Proofs.Ytpnocpfagbfboaa.CPCubeCalls
