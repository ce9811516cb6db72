/- Cubes as pairs of numbers below 256: which letters they have, Meet, Within, and what is left of the one without the other, decided bit by bit. Conditions stand in each lemma. -/
import Derived.Test.YtpnocpfagbfboaaCubeNat
namespace Go.Proofs.Ytpnocpfagbfboaa.CubeNat
/-- A decision for May, Has. -/
def mayB (c v i : Nat) : Nat → Bool
  | 0 => true
  | d + 1 => (!(v.testBit i) || c.testBit i) && mayB c v (i + 1) d
theorem mayB_iff (c v : Nat) (d : Nat) : ∀ i, mayB c v i d = true ↔ ∀ p, i ≤ p → p < i + d → v.testBit p = true → c.testBit p = true := by
  induction d with
  | zero => intro i; simp only [mayB, true_iff]; intro p h1 h2; omega
  | succ d ih =>
    intro i
    simp only [mayB, Bool.and_eq_true, ih (i + 1)]
    constructor
    · intro ⟨h0, h⟩ p h1 h2 hv
      by_cases e : p = i
      · subst e; simpa [hv] using h0
      · exact h p (by omega) (by omega) hv
    · intro h
      refine ⟨?_, fun p h1 h2 => h p (by omega) (by omega)⟩
      cases hv : v.testBit i with
      | false => simp
      | true => simp [h i (Nat.le_refl _) (by omega) hv]
theorem mayB_may (c v : Nat) : mayB c v 0 8 = true ↔ May c v := by
  rw [mayB_iff]; exact ⟨fun h p hp => h p (Nat.zero_le _) (by omega), fun h p _ hp => h p (by omega)⟩

def hasB (c v l i : Nat) : Nat → Bool
  | 0 => true
  | d + 1 => (!(c.testBit i) || v.testBit i == l.testBit i) && hasB c v l (i + 1) d
theorem hasB_iff (c v l : Nat) (d : Nat) : ∀ i, hasB c v l i d = true ↔ ∀ p, i ≤ p → p < i + d → c.testBit p = true → v.testBit p = l.testBit p := by
  induction d with
  | zero => intro i; simp only [hasB, true_iff]; intro p h1 h2; omega
  | succ d ih =>
    intro i
    simp only [hasB, Bool.and_eq_true, ih (i + 1)]
    constructor
    · intro ⟨h0, h⟩ p h1 h2 hv
      by_cases e : p = i
      · subst e; simpa [hv] using h0
      · exact h p (by omega) (by omega) hv
    · intro h
      refine ⟨?_, fun p h1 h2 => h p (by omega) (by omega)⟩
      cases hv : c.testBit i with
      | false => simp
      | true => simp [h i (Nat.le_refl _) (by omega) hv]
def HasB (c v l : Nat) : Bool := mayB c v 0 8 && hasB c v l 0 8
theorem HasB_iff (c v l : Nat) : HasB c v l = true ↔ May c v ∧ Has c v l := by
  unfold HasB
  rw [Bool.and_eq_true, mayB_may, hasB_iff]
  exact ⟨fun ⟨h, k⟩ => ⟨h, fun p hp => k p (Nat.zero_le _) (by omega)⟩, fun ⟨h, k⟩ => ⟨h, fun p _ hp => k p (by omega)⟩⟩

/-- How many letters both have. -/
def both (c v c' v' : Nat) : Nat := cnt (fun l => HasB c v l && HasB c' v' l) 0 256

/-- No letter of both. -/
theorem both_zero (c v c' v' : Nat) (hv : v < 256) (hv' : v' < 256) : both c v c' v' = 0 ↔ ¬ (May c v ∧ May c' v' ∧ Agree c v c' v') := by
  unfold both
  rw [cnt_zero]
  constructor
  · intro h ⟨h1, h2, h3⟩
    obtain ⟨k1, k2⟩ := has_both h1 h2 h3
    have := h (v ||| v') (Nat.zero_le _) (by have := or_lt hv hv'; omega)
    rw [(HasB_iff _ _ _).2 ⟨h1, k1⟩, (HasB_iff _ _ _).2 ⟨h2, k2⟩] at this
    cases this
  · intro h l _ _
    cases e1 : HasB c v l with
    | false => rfl
    | true =>
      cases e2 : HasB c' v' l with
      | false => rfl
      | true =>
        obtain ⟨h1, k1⟩ := (HasB_iff _ _ _).1 e1
        obtain ⟨h2, k2⟩ := (HasB_iff _ _ _).1 e2
        exact absurd ⟨h1, h2, agree_of k1 k2⟩ h
theorem both_own (c v : Nat) (hv : v < 256) : both c v c v = 0 ↔ ¬ May c v := by
  rw [both_zero c v c v hv hv]
  exact not_congr ⟨fun h => h.1, fun h => ⟨h, h, fun _ _ _ _ => rfl⟩⟩
theorem both_within (c v c' v' : Nat) (hc : c < 256) (hv : v < 256) (hc' : c' < 256) (hv' : v' < 256) :
    both c v c' v' = both c v c v ↔ (May c v → (May c' v' ∧ Agree c v c' v' ∧ c ||| c' = c ∧ v ||| v' = v)) := by
  rw [← within_iff hc hc' hv hv']
  unfold both
  rw [cnt_same (fun l h => by rw [Bool.and_eq_true] at h; simp [h.1])]
  constructor
  · intro h hm l hl hh
    have := h l (Nat.zero_le _) (by omega) (by rw [(HasB_iff _ _ _).2 ⟨hm, hh⟩]; rfl)
    rw [Bool.and_eq_true] at this
    exact (HasB_iff _ _ _).1 this.2
  · intro h l _ hl hh
    rw [Bool.and_self] at hh
    obtain ⟨h1, h2⟩ := (HasB_iff _ _ _).1 hh
    rw [hh, (HasB_iff _ _ _).2 (h h1 l (by omega) h2)]
    rfl

theorem cast_zero (n : Nat) : ((n : Int) == 0) = decide (n = 0) := by
  by_cases h : n = 0
  · subst h; rfl
  · rw [decide_eq_false h, beq_eq_false_iff_ne]; omega

/-- Do both have a letter in common? -/
def MeetB (c v c' v' : Nat) : Bool := mayB c v 0 8 && (mayB c' v' 0 8 && decide (((v ^^^ v') &&& c) &&& c' = 0))
theorem MeetB_iff {c v c' v' : Nat} (hv : v < 256) (hv' : v' < 256) : MeetB c v c' v' = true ↔ (May c v ∧ May c' v' ∧ Agree c v c' v') := by
  unfold MeetB
  rw [Bool.and_eq_true, Bool.and_eq_true, mayB_may, mayB_may, decide_eq_true_iff, agree_iff hv hv']

def WithinB (c v c' v' : Nat) : Bool := !(mayB c v 0 8) || (MeetB c v c' v' && (decide (c ||| c' = c) && decide (v ||| v' = v)))
theorem cast_beq (a b : Nat) : ((a : Int) == (b : Int)) = decide (a = b) := by
  by_cases h : a = b
  · subst h; simp
  · rw [decide_eq_false h, beq_eq_false_iff_ne]; omega

theorem within_is (c v c' v' : Nat) (hc : c < 256) (hv : v < 256) (hc' : c' < 256) (hv' : v' < 256) :
    WithinB c v c' v' = decide (both c v c' v' = both c v c v) := by
  rw [Bool.eq_iff_iff, decide_eq_true_iff, both_within c v c' v' hc hv hc' hv']
  unfold WithinB
  rw [Bool.or_eq_true, Bool.and_eq_true, Bool.and_eq_true, MeetB_iff hv hv', decide_eq_true_iff, decide_eq_true_iff, Bool.not_eq_true', ← Bool.not_eq_true, mayB_may]
  constructor
  · rintro (h | ⟨⟨_, h2, h3⟩, h4, h5⟩) hm
    · exact absurd hm h
    · exact ⟨h2, h3, h4, h5⟩
  · intro h
    by_cases hm : May c v
    · obtain ⟨h2, h3, h4, h5⟩ := h hm
      exact .inr ⟨⟨hm, h2, h3⟩, h4, h5⟩
    · exact .inl hm
theorem meet_is (c v c' v' : Nat) (hv : v < 256) (hv' : v' < 256) : MeetB c v c' v' = !decide (both c v c' v' = 0) := by
  rw [Bool.eq_iff_iff, MeetB_iff hv hv', Bool.not_eq_true', decide_eq_false_iff_not, both_zero c v c' v' hv hv', Classical.not_not]
theorem may_is (c v : Nat) (hv : v < 256) : mayB c v 0 8 = !decide (both c v c v = 0) := by
  rw [Bool.eq_iff_iff, mayB_may, Bool.not_eq_true', decide_eq_false_iff_not, both_own c v hv, Classical.not_not]


theorem mask_lt {n : Nat} (h : n ≤ 8) : 2 ^ n - 1 < 256 := by
  have := Nat.pow_le_pow_right (n := 2) (by decide) h
  omega
def outB (c i : Nat) : Nat → Bool
  | 0 => false
  | d + 1 => c.testBit i || outB c (i + 1) d
theorem outB_iff (c : Nat) (d : Nat) : ∀ i, outB c i d = true ↔ ∃ p, i ≤ p ∧ p < i + d ∧ c.testBit p = true := by
  induction d with
  | zero => intro i; simp only [outB, Bool.false_eq_true, false_iff]; rintro ⟨p, h1, h2, _⟩; omega
  | succ d ih =>
    intro i
    simp only [outB, Bool.or_eq_true, ih (i + 1)]
    constructor
    · rintro (h | ⟨p, h1, h2, h⟩)
      · exact ⟨i, Nat.le_refl _, by omega, h⟩
      · exact ⟨p, by omega, by omega, h⟩
    · rintro ⟨p, h1, h2, h⟩
      by_cases e : p = i
      · subst e; exact .inl h
      · exact .inr ⟨p, by omega, by omega, h⟩
theorem out_iff {c n : Nat} (hc : c < 256) (hn : n ≤ 8) : c &&& (255 - (2 ^ n - 1)) = 0 ↔ outB c n (8 - n) = false := by
  rw [← Bool.not_eq_true, outB_iff]
  constructor
  · rintro h ⟨p, h1, h2, h3⟩
    have := congrArg (fun x => x.testBit p) h
    have hp : ¬ p < n := by omega
    simp only [Nat.testBit_and, tb_not (mask_lt hn), h3, Nat.zero_testBit, Nat.testBit_two_pow_sub_one, decide_eq_false hp] at this
    simp at this
    omega
  · intro h
    refine ext8 (and_lt hc) (by decide) fun p hp => ?_
    simp only [Nat.testBit_and, tb_not (mask_lt hn), Nat.zero_testBit, Nat.testBit_two_pow_sub_one]
    by_cases hpn : p < n
    · simp [hpn]
    · cases h3 : c.testBit p with
      | false => simp
      | true => exact absurd ⟨p, by omega, by omega, h3⟩ h

theorem pow_le (i : Nat) (h : i < 8) : 2 ^ i ≤ 128 := Nat.pow_le_pow_right (n := 2) (i := i) (j := 7) (by decide) (by omega)

/-- Of the cube of both. -/
theorem meet_has {c v c' v' l : Nat} (hm : May c v) (hm' : May c' v') (ha : Agree c v c' v') : HasB (c ||| c') (v ||| v') l = (HasB c v l && HasB c' v' l) := by
  rw [Bool.eq_iff_iff, Bool.and_eq_true, HasB_iff, HasB_iff, HasB_iff]
  constructor
  · intro ⟨_, h⟩
    refine ⟨⟨hm, fun p hp h1 => ?_⟩, ⟨hm', fun p hp h1 => ?_⟩⟩
    · have := h p hp (by rw [Nat.testBit_or, h1]; rfl)
      rw [Nat.testBit_or] at this
      cases h2 : v'.testBit p with
      | false => rw [h2] at this; simpa using this
      | true =>
        have h3 := ha p hp h1 (hm' p hp h2)
        rw [h3]; rw [h2] at this ⊢; simpa using this
    · have := h p hp (by rw [Nat.testBit_or, h1]; simp)
      rw [Nat.testBit_or] at this
      cases h2 : v.testBit p with
      | false => rw [h2] at this; simpa using this
      | true =>
        have h3 := ha p hp (hm p hp h2) h1
        rw [← h3]; rw [h2] at this ⊢; simpa using this
  · intro ⟨⟨_, h⟩, ⟨_, h'⟩⟩
    refine ⟨fun p hp hv => ?_, fun p hp hc => ?_⟩
    · rw [Nat.testBit_or, Bool.or_eq_true] at hv ⊢
      rcases hv with hv | hv
      · exact .inl (hm p hp hv)
      · exact .inr (hm' p hp hv)
    · rw [Nat.testBit_or, Bool.or_eq_true] at hc
      rw [Nat.testBit_or]
      rcases hc with hc | hc
      · cases h2 : v'.testBit p with
        | false => rw [h p hp hc]; simp
        | true => rw [ha p hp hc (hm' p hp h2), ← h' p hp (hm' p hp h2), h2]; rfl
      · cases h2 : v.testBit p with
        | false => rw [h' p hp hc]; simp
        | true => rw [← ha p hp (hm p hp h2) hc, ← h p hp (hm p hp h2), h2]; rfl
/-- A proposition said besides. -/
def saidB (c v i : Nat) (b : Bool) : Nat × Nat := (c ||| 2 ^ i, if b = true then v ||| 2 ^ i else v)
theorem said_may {c v i : Nat} {b : Bool} (hm : May c v) : May (saidB c v i b).1 (saidB c v i b).2 := by
  intro p hp hv
  unfold saidB at hv ⊢
  simp only at hv ⊢
  rw [Nat.testBit_or, tb_pow]
  by_cases e : i = p
  · simp [e]
  · cases b with
    | false => rw [hm p hp (by simpa using hv)]; rfl
    | true =>
      have : v.testBit p = true := by simpa [Nat.testBit_or, tb_pow, e] using hv
      rw [hm p hp this]; rfl
theorem said_has {c v i l : Nat} {b : Bool} (hm : May c v) (hi : i < 8) (hc : c.testBit i = false) : HasB (saidB c v i b).1 (saidB c v i b).2 l = (HasB c v l && (l.testBit i == b)) := by
  have hvi : v.testBit i = false := by
    cases h : v.testBit i with
    | false => rfl
    | true => rw [hm i hi h] at hc; cases hc
  rw [Bool.eq_iff_iff, Bool.and_eq_true, HasB_iff, HasB_iff, beq_iff_eq]
  unfold saidB
  simp only
  constructor
  · intro ⟨_, h⟩
    refine ⟨⟨hm, fun p hp h1 => ?_⟩, ?_⟩
    · have e : ¬ i = p := by rintro rfl; rw [hc] at h1; cases h1
      have := h p hp (by rw [Nat.testBit_or, h1]; rfl)
      cases b with
      | false => simpa using this
      | true => simpa [Nat.testBit_or, tb_pow, e] using this
    · have := h i hi (by rw [Nat.testBit_or, tb_pow]; simp)
      cases b with
      | false => rw [← this]; simpa using hvi
      | true => rw [← this]; simp [Nat.testBit_or]
  · intro ⟨⟨_, h⟩, hl⟩
    refine ⟨said_may (b := b) (i := i) hm, fun p hp h1 => ?_⟩
    by_cases e : i = p
    · subst e
      rw [hl]
      cases b with
      | false => simpa using hvi
      | true => simp [Nat.testBit_or]
    · have h2 : c.testBit p = true := by simpa [Nat.testBit_or, tb_pow, e] using h1
      have := h p hp h2
      cases b with
      | false => simpa using this
      | true => simpa [Nat.testBit_or, tb_pow, e] using this
/-- What is left of the one cube without the other, from a proposition on. -/
def minusN (c v c' v' i : Nat) : Nat → List (Nat × Nat)
  | 0 => []
  | d + 1 =>
    if c'.testBit i = true ∧ c.testBit i = false then saidB c v i (!v'.testBit i) :: minusN (saidB c v i (v'.testBit i)).1 (saidB c v i (v'.testBit i)).2 c' v' (i + 1) d
    else minusN c v c' v' (i + 1) d
/-- How many of some cubes have a letter. -/
def many (l : Nat) (cs : List (Nat × Nat)) : Nat := cs.countP fun s => HasB s.1 s.2 l
theorem minus_many {c' v' l : Nat} (hm' : May c' v') (d : Nat) : ∀ c v i, i + d = 8 → May c v → Agree c v c' v' → (∀ p, p < i → c'.testBit p = true → c.testBit p = true) →
    many l (minusN c v c' v' i d) = if (HasB c v l && !HasB c' v' l) = true then 1 else 0 := by
  induction d with
  | zero =>
    intro c v i hi hm ha hd
    rw [if_neg]
    · rfl
    · intro h
      rw [Bool.and_eq_true, Bool.not_eq_true', HasB_iff] at h
      have : HasB c' v' l = true := (HasB_iff _ _ _).2 ⟨hm', fun p hp h1 => by
        have h2 := hd p (by omega) h1
        rw [← ha p hp h2 h1, h.1.2 p hp h2]⟩
      rw [this] at h
      cases h.2
  | succ d ih =>
    intro c v i hi hm ha hd
    unfold minusN
    by_cases hb : c'.testBit i = true ∧ c.testBit i = false
    · rw [if_pos hb]
      have h8 : i < 8 := by omega
      have hvi : v.testBit i = false := by
        cases h : v.testBit i with
        | false => rfl
        | true => rw [hm i h8 h] at hb; cases hb.2
      have := ih (saidB c v i (v'.testBit i)).1 (saidB c v i (v'.testBit i)).2 (i + 1) (by omega) (said_may hm) ?_ ?_
      · unfold many at this ⊢
        rw [List.countP_cons, this]
        simp only [said_has hm h8 hb.2]
        have hl : HasB c' v' l = true → l.testBit i = v'.testBit i := fun h => (((HasB_iff _ _ _).1 h).2 i h8 hb.1).symm
        cases h1 : HasB c v l with
        | false => simp
        | true =>
          cases h2 : HasB c' v' l with
          | true => rw [hl h2]; cases v'.testBit i <;> rfl
          | false => cases l.testBit i <;> cases v'.testBit i <;> rfl
      · intro p hp h1 h2
        unfold saidB at h1 ⊢
        simp only at h1 ⊢
        by_cases e : i = p
        · subst e
          cases h3 : v'.testBit i with
          | false => simpa using hvi
          | true => simp [Nat.testBit_or]
        · have h4 : c.testBit p = true := by simpa [Nat.testBit_or, tb_pow, e] using h1
          cases h3 : v'.testBit i with
          | false => simpa using ha p hp h4 h2
          | true => simpa [Nat.testBit_or, tb_pow, e] using ha p hp h4 h2
      · intro p hp h1
        unfold saidB
        simp only
        rw [Nat.testBit_or, tb_pow]
        by_cases e : i = p
        · simp [e]
        · rw [hd p (by omega) h1]; rfl
    · rw [if_neg hb]
      refine ih c v (i + 1) (by omega) hm ha (fun p hp h1 => ?_)
      by_cases e : p = i
      · subst e
        cases h : c.testBit p with
        | true => rfl
        | false => exact absurd ⟨h1, h⟩ hb
      · exact hd p (by omega) h1
theorem minus_lt {c' v' : Nat} (d : Nat) : ∀ c v i, i + d = 8 → c < 256 → v < 256 → ∀ s ∈ minusN c v c' v' i d, s.1 < 256 ∧ s.2 < 256 := by
  induction d with
  | zero => intro c v i _ _ _ s hs; cases hs
  | succ d ih =>
    intro c v i hi hc hv s hs
    have h8 : i < 8 := by omega
    have hk : ∀ b, (saidB c v i b).1 < 256 ∧ (saidB c v i b).2 < 256 := by
      intro b
      unfold saidB
      exact ⟨or_lt hc (pow_lt8 h8), by simp only; split; exact or_lt hv (pow_lt8 h8); exact hv⟩
    unfold minusN at hs
    split at hs
    · rcases List.mem_cons.1 hs with rfl | hs
      · exact hk _
      · exact ih _ _ (i + 1) (by omega) (hk _).1 (hk _).2 s hs
    · exact ih _ _ (i + 1) (by omega) hc hv s hs
theorem minus_len {c' v' : Nat} (d : Nat) : ∀ c v i, (minusN c v c' v' i d).length ≤ d := by
  induction d with
  | zero => intro c v i; exact Nat.le_refl _
  | succ d ih =>
    intro c v i
    unfold minusN
    split
    · simpa using ih _ _ _
    · exact Nat.le_trans (ih _ _ _) (Nat.le_succ _)
/-- Minus, whole. -/
def minusW (c v c' v' : Nat) : List (Nat × Nat) := if mayB c v 0 8 = true then (if MeetB c v c' v' = true then minusN c v c' v' 0 8 else [(c, v)]) else []
theorem minusW_many {c v c' v' l : Nat} (hv : v < 256) (hv' : v' < 256) : many l (minusW c v c' v') = if (HasB c v l && !HasB c' v' l) = true then 1 else 0 := by
  unfold minusW
  by_cases h : mayB c v 0 8 = true
  · rw [if_pos h]
    have hm := (mayB_may c v).1 h
    by_cases k : MeetB c v c' v' = true
    · rw [if_pos k]
      obtain ⟨_, h2, h3⟩ := (MeetB_iff hv hv').1 k
      exact minus_many h2 8 c v 0 (by omega) hm h3 (fun p hp => by omega)
    · rw [if_neg k]
      have hn : ¬ (HasB c v l = true ∧ HasB c' v' l = true) := fun ⟨h1, h2⟩ => by
        obtain ⟨_, k1⟩ := (HasB_iff _ _ _).1 h1
        obtain ⟨k0, k2⟩ := (HasB_iff _ _ _).1 h2
        exact k ((MeetB_iff hv hv').2 ⟨hm, k0, agree_of k1 k2⟩)
      unfold many
      rw [List.countP_cons, List.countP_nil]
      cases h1 : HasB c v l <;> cases h2 : HasB c' v' l <;> simp_all
  · rw [if_neg h]
    have : HasB c v l = false := by unfold HasB; simp [h]
    rw [this]; rfl
theorem minusW_lt {c v c' v' : Nat} (hc : c < 256) (hv : v < 256) : ∀ s ∈ minusW c v c' v', s.1 < 256 ∧ s.2 < 256 := by
  intro s hs
  unfold minusW at hs
  split at hs
  · split at hs
    · exact minus_lt 8 c v 0 (by omega) hc hv s hs
    · rcases List.mem_cons.1 hs with rfl | hs
      · exact ⟨hc, hv⟩
      · cases hs
  · cases hs
theorem minusW_len {c v c' v' : Nat} : (minusW c v c' v').length ≤ 8 := by
  unfold minusW
  split
  · split
    · exact minus_len 8 c v 0
    · simp
  · simp
end Go.Proofs.Ytpnocpfagbfboaa.CubeNat
