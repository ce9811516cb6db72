/- Plain facts on numbers below 256 as sets of bits, and on how many numbers of a range have a property: what the laws on cubes lean on. Conditions stand in each lemma. -/
import Derived.Laws.BitsAllLaws
namespace Go.Proofs.Ytpnocpfagbfboaa.CubeNat

theorem tb_hi {x p : Nat} (h : x < 256) (hp : 8 ≤ p) : x.testBit p = false :=
  Nat.testBit_lt_two_pow (Nat.lt_of_lt_of_le h (Nat.pow_le_pow_right (n := 2) (by decide) hp))
theorem ext8 {x y : Nat} (hx : x < 256) (hy : y < 256) (h : ∀ p, p < 8 → x.testBit p = y.testBit p) : x = y := by
  apply Nat.eq_of_testBit_eq
  intro p
  by_cases hp : p < 8
  · exact h p hp
  · rw [tb_hi hx (by omega), tb_hi hy (by omega)]
theorem tb_not {c : Nat} (h : c < 256) (p : Nat) : (255 - c).testBit p = (decide (p < 8) && !c.testBit p) := by
  have := Nat.testBit_two_pow_sub_succ (x := c) (n := 8) (by simpa using h) p
  have e : 2 ^ 8 - (c + 1) = 255 - c := by omega
  rwa [e] at this
theorem and_lt {x y : Nat} (h : x < 256) : x &&& y < 256 := Nat.lt_of_le_of_lt Nat.and_le_left h
theorem or_lt {x y : Nat} (h : x < 256) (k : y < 256) : x ||| y < 256 := Nat.or_lt_two_pow (n := 8) h k
theorem xor_lt {x y : Nat} (h : x < 256) (k : y < 256) : x ^^^ y < 256 := Nat.xor_lt_two_pow (n := 8) h k
theorem tb_pow (p q : Nat) : (2 ^ p).testBit q = decide (p = q) := Nat.testBit_two_pow
theorem pow_lt8 {p : Nat} (h : p < 8) : 2 ^ p < 256 := Nat.pow_lt_pow_right (a := 2) (n := 8) (by decide) h
theorem bit_val (x p : Nat) : x / 2 ^ p % 2 = (x.testBit p).toNat := by
  rw [Nat.testBit_eq_decide_div_mod_eq]
  rcases Nat.mod_two_eq_zero_or_one (x / 2 ^ p) with h | h <;> rw [h] <;> rfl

/-- A cube that may be. -/
def May (c v : Nat) : Prop := ∀ p, p < 8 → v.testBit p = true → c.testBit p = true
theorem may_iff {c v : Nat} (hc : c < 256) (hv : v < 256) : v &&& (255 - c) = 0 ↔ May c v := by
  constructor
  · intro h p hp hb
    have := congrArg (fun n => n.testBit p) h
    simp only [Nat.testBit_and, tb_not hc, hb, Nat.zero_testBit] at this
    simpa [hp] using this
  · intro h
    refine ext8 (and_lt hv) (by decide) fun p hp => ?_
    simp only [Nat.testBit_and, tb_not hc, Nat.zero_testBit]
    cases hb : v.testBit p with
    | false => rfl
    | true => simp [h p hp hb]

/-- Its letters. -/
def Has (c v l : Nat) : Prop := ∀ p, p < 8 → c.testBit p = true → v.testBit p = l.testBit p
theorem has_iff {c v l : Nat} (hc : c < 256) (hv : v < 256) (hm : May c v) : l &&& c = v ↔ Has c v l := by
  constructor
  · intro h p _ hb
    rw [← h]
    simp [hb]
  · intro h
    refine ext8 (by rw [Nat.and_comm]; exact and_lt hc) hv fun p hp => ?_
    rw [Nat.testBit_and]
    cases hb : c.testBit p with
    | true => simp [h p hp hb]
    | false =>
      cases hd : v.testBit p with
      | false => simp
      | true => exact absurd (hm p hp hd) (by simp [hb])

/-- The two agree where both say something. -/
def Agree (c v c' v' : Nat) : Prop := ∀ p, p < 8 → c.testBit p = true → c'.testBit p = true → v.testBit p = v'.testBit p
theorem agree_iff {c v c' v' : Nat} (hv : v < 256) (hv' : v' < 256) : ((v ^^^ v') &&& c) &&& c' = 0 ↔ Agree c v c' v' := by
  constructor
  · intro h p _ h1 h2
    have := congrArg (fun n => n.testBit p) h
    simp only [Nat.testBit_and, Nat.testBit_xor, h1, h2, Nat.zero_testBit] at this
    simpa using this
  · intro h
    refine ext8 (and_lt (and_lt (xor_lt hv hv'))) (by decide) fun p hp => ?_
    simp only [Nat.testBit_and, Nat.testBit_xor, Nat.zero_testBit]
    cases h1 : c.testBit p with
    | false => simp
    | true =>
      cases h2 : c'.testBit p with
      | false => simp
      | true => simp [h p hp h1 h2]

theorem has_own (c v : Nat) : Has c v v := fun _ _ _ => rfl
/-- A letter of both. -/
theorem has_both {c v c' v' : Nat} (hm : May c v) (hm' : May c' v') (h : Agree c v c' v') : Has c v (v ||| v') ∧ Has c' v' (v ||| v') := by
  constructor
  · intro p hp hb
    rw [Nat.testBit_or]
    cases h2 : v'.testBit p with
    | false => simp
    | true => simp [h p hp hb (hm' p hp h2), h2]
  · intro p hp hb
    rw [Nat.testBit_or]
    cases h2 : v.testBit p with
    | false => simp
    | true => simp [← h p hp (hm p hp h2) hb, h2]
theorem agree_of {c v c' v' l : Nat} (h : Has c v l) (h' : Has c' v' l) : Agree c v c' v' := fun p hp h1 h2 => by rw [h p hp h1, h' p hp h2]

/-- All letters of the one are the other's. -/
theorem within_iff {c v c' v' : Nat} (hc : c < 256) (hc' : c' < 256) (hv : v < 256) (hv' : v' < 256) :
    (∀ l, l < 256 → Has c v l → (May c' v' ∧ Has c' v' l)) ↔ (May c' v' ∧ Agree c v c' v' ∧ c ||| c' = c ∧ v ||| v' = v) := by
  constructor
  · intro h
    obtain ⟨hm', h0⟩ := h v hv (has_own c v)
    refine ⟨hm', agree_of (has_own c v) h0, ext8 (or_lt hc hc') hc fun p hp => ?_, ext8 (or_lt hv hv') hv fun p hp => ?_⟩
    · rw [Nat.testBit_or]
      cases h1 : c.testBit p with
      | true => rfl
      | false =>
        cases h2 : c'.testBit p with
        | false => rfl
        | true =>
          have hx : Has c v (v ^^^ 2 ^ p) := by
            intro q hq hb
            rw [Nat.testBit_xor, tb_pow]
            have : ¬ p = q := by rintro rfl; rw [h1] at hb; cases hb
            simp [this]
          have h3 := (h _ (xor_lt hv (pow_lt8 hp)) hx).2 p hp h2
          have h4 := h0 p hp h2
          rw [Nat.testBit_xor, tb_pow, h4] at h3
          simp at h3
    · rw [Nat.testBit_or]
      cases h1 : v'.testBit p with
      | false => simp
      | true => rw [← h0 p hp (hm' p hp h1), h1]; rfl
  · intro ⟨hm', ha, h1, h2⟩ l _ hl
    refine ⟨hm', fun p hp hb => ?_⟩
    have hcp : c.testBit p = true := by rw [← h1, Nat.testBit_or, hb]; simp
    rw [← ha p hp hcp hb, hl p hp hcp]

/-- How many numbers from i on, of d, have a property. -/
def cnt (f : Nat → Bool) : Nat → Nat → Nat
  | _, 0 => 0
  | i, d + 1 => (if f i = true then 1 else 0) + cnt f (i + 1) d
theorem cnt_le (f : Nat → Bool) : ∀ d i, cnt f i d ≤ d
  | 0, _ => Nat.le_refl _
  | d + 1, i => by unfold cnt; have := cnt_le f d (i + 1); split <;> omega
theorem cnt_zero {f : Nat → Bool} (d : Nat) : ∀ i, cnt f i d = 0 ↔ ∀ j, i ≤ j → j < i + d → f j = false := by
  induction d with
  | zero => intro i; simp only [cnt, true_iff]; intro j h1 h2; omega
  | succ d ih =>
    intro i
    unfold cnt
    constructor
    · intro h j h1 h2
      by_cases e : f i = true
      · rw [if_pos e] at h; omega
      · rw [if_neg e] at h
        by_cases hj : j = i
        · subst hj; simpa using e
        · exact (ih (i + 1)).1 (by omega) j (by omega) (by omega)
    · intro h
      have h0 := h i (Nat.le_refl _) (by omega)
      rw [if_neg (by simp [h0]), (ih (i + 1)).2 (fun j h1 h2 => h j (by omega) (by omega))]
theorem cnt_mono {f g : Nat → Bool} (h : ∀ j, f j = true → g j = true) : ∀ d i, cnt f i d ≤ cnt g i d
  | 0, _ => Nat.le_refl _
  | d + 1, i => by
    unfold cnt
    have := cnt_mono h d (i + 1)
    by_cases e : f i = true
    · rw [if_pos e, if_pos (h i e)]; omega
    · rw [if_neg e]; omega
theorem cnt_same {f g : Nat → Bool} (h : ∀ j, f j = true → g j = true) (d : Nat) : ∀ i, cnt f i d = cnt g i d ↔ ∀ j, i ≤ j → j < i + d → g j = true → f j = true := by
  induction d with
  | zero => intro i; simp only [cnt, true_iff]; intro j h1 h2; omega
  | succ d ih =>
    intro i
    unfold cnt
    have hm := cnt_mono h d (i + 1)
    constructor
    · intro hh j h1 h2 hg
      by_cases hj : j = i
      · subst hj
        cases e : f j with
        | true => rfl
        | false => rw [if_neg (by simp [e]), if_pos hg] at hh; omega
      · refine (ih (i + 1)).1 ?_ j (by omega) (by omega) hg
        by_cases e : f i = true
        · rw [if_pos e, if_pos (h i e)] at hh; omega
        · rw [if_neg e] at hh
          by_cases e' : g i = true
          · rw [if_pos e'] at hh; omega
          · rw [if_neg e'] at hh; omega
    · intro hh
      rw [(ih (i + 1)).2 (fun j h1 h2 => hh j (by omega) (by omega))]
      by_cases e' : g i = true
      · rw [if_pos (hh i (Nat.le_refl _) (by omega) e'), if_pos e']
      · rw [if_neg e', if_neg (fun e => e' (h i e))]

end Go.Proofs.Ytpnocpfagbfboaa.CubeNat
