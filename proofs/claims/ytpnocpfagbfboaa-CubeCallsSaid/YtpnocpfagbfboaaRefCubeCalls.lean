/- What the document's own functions on cubes compute, said of bits: the numbers are below 256. -/
import Derived.Test.YtpnocpfagbfboaaCubeNat
import Derived.Test.YtpnocpfagbfboaaPCubeCallsx
namespace Go.Proofs.Ytpnocpfagbfboaa.RPCubeCalls
open Go.RowKit Go.Proofs.Ytpnocpfagbfboaa.PCubeCalls Go.Proofs.YtpnocpfagbfboaaW.PrintWords Go.Proofs.YtpnocpfagbfboaaW.PrintLast Go.Proofs.YtpnocpfagbfboaaW.PrintMore Go.Proofs.Ytpnocpfagbfboaa.CubeNat

theorem wrap_inc {i : Nat} (h : i ≤ 1000000) : wrap64 ((i : Int) + 1) = ((i + 1 : Nat) : Int) := by unfold wrap64; omega

/-- The bit p of a letter. -/
theorem bit_loop (x p : Nat) (hx : x < 256) (hp : p ≤ 8) (d : Nat) : ∀ i : Nat, i + d = p →
    Ev (fun k => rejoinderref02_Bit.l0 k p ((x / 2 ^ i : Nat) : Int) i) ((x / 2 ^ p % 2 : Nat) : Int) := by
  induction d with
  | zero =>
    intro i hi
    obtain rfl : i = p := by omega
    refine Ev.of (fun k => (rejoinderref02_Bit.mono_l k) _ _ _) (k := 1) ?_
    simp only [rejoinderref02_Bit.l0]
    rw [if_neg (by omega), Int.natCast_emod]
    generalize x / 2 ^ i = y
    rw [Int.tmod_eq_emod_of_nonneg (by omega)]
    simp
  | succ d ih =>
    intro i hi
    refine Ev.step (f := fun k => rejoinderref02_Bit.l0 k p ((x / 2 ^ (i + 1) : Nat) : Int) ((i + 1 : Nat) : Int)) (fun k => ?_) (ih (i + 1) (by omega))
    simp only [rejoinderref02_Bit.l0]
    rw [if_pos (by omega), wrap_inc (by omega)]
    have hw : wrap64 (Int.tdiv ((x / 2 ^ i : Nat) : Int) 2) = ((x / 2 ^ (i + 1) : Nat) : Int) := by
      rw [Int.tdiv_eq_ediv_of_nonneg (Int.natCast_nonneg _), Nat.pow_succ, ← Nat.div_div_eq_div_mul]
      have : x / 2 ^ i ≤ x := Nat.div_le_self _ _
      generalize x / 2 ^ i = y at *
      unfold wrap64; omega
    rw [hw]
theorem bit_ev (x p : Nat) (hx : x < 256) (hp : p ≤ 8) : Ev (fun k => rejoinderref02_Bit.f k x p) (((x.testBit p).toNat : Nat) : Int) := by
  have h := bit_loop x p hx hp p 0 (by omega)
  rw [bit_val] at h
  refine Ev.congr (fun k => ?_) h
  unfold rejoinderref02_Bit.f
  have : wrap64 (x : Int) = ((x / 2 ^ 0 : Nat) : Int) := by simp only [Nat.pow_zero, Nat.div_one]; unfold wrap64; omega
  rw [this]; rfl

/-- A decision for May, Has. -/
def mayB (c v i : Nat) : Nat → Bool
  | 0 => true
  | d + 1 => (!(v.testBit i) || c.testBit i) && mayB c v (i + 1) d
theorem mayB_iff (c v : Nat) (d : Nat) : ∀ i, mayB c v i d = true ↔ ∀ p, i ≤ p → p < i + d → v.testBit p = true → c.testBit p = true := by
  induction d with
  | zero => intro i; simp only [mayB, true_iff]; intro p h1 h2; omega
  | succ d ih =>
    intro i
    simp only [mayB, Bool.and_eq_true, ih (i + 1)]
    constructor
    · intro ⟨h0, h⟩ p h1 h2 hv
      by_cases e : p = i
      · subst e; simpa [hv] using h0
      · exact h p (by omega) (by omega) hv
    · intro h
      refine ⟨?_, fun p h1 h2 => h p (by omega) (by omega)⟩
      cases hv : v.testBit i with
      | false => simp
      | true => simp [h i (Nat.le_refl _) (by omega) hv]
theorem mayB_may (c v : Nat) : mayB c v 0 8 = true ↔ May c v := by
  rw [mayB_iff]; exact ⟨fun h p hp => h p (Nat.zero_le _) (by omega), fun h p _ hp => h p (by omega)⟩
theorem may_loop (c v : Nat) (hc : c < 256) (hv : v < 256) (d : Nat) : ∀ i : Nat, i + d = 8 →
    Ev (fun k => rejoinderref02_may.l0 k i c v) (mayB c v i d) := by
  induction d with
  | zero =>
    intro i hi
    refine Ev.of (fun k => (rejoinderref02_may.mono_l k) _ _ _) (k := 1) ?_
    simp only [rejoinderref02_may.l0, mayB]
    rw [if_neg (by omega)]
  | succ d ih =>
    intro i hi
    refine Ev.step (f := fun k => (rejoinderref02_Bit.f k v i).bind fun t134 => (if t134 = 1 then ((rejoinderref02_Bit.f k c i).bind fun t135 => (if t135 = 0 then (some false) else (rejoinderref02_may.l0 k ((i + 1 : Nat) : Int) c v))) else (rejoinderref02_may.l0 k ((i + 1 : Nat) : Int) c v))) (fun k => ?_) ?_
    · simp only [rejoinderref02_may.l0]; rw [if_pos (by omega), wrap_inc (by omega)]
    · refine Ev.bind (f := fun k t134 => (if t134 = 1 then ((rejoinderref02_Bit.f k c i).bind fun t135 => (if t135 = 0 then (some false) else (rejoinderref02_may.l0 k ((i + 1 : Nat) : Int) c v))) else (rejoinderref02_may.l0 k ((i + 1 : Nat) : Int) c v))) (bit_ev v i hv (by omega)) ?_
      simp only [mayB]
      cases h1 : v.testBit i with
      | false => simpa using ih (i + 1) (by omega)
      | true =>
        refine Ev.congr (f := fun k => (rejoinderref02_Bit.f k c i).bind fun t135 => (if t135 = 0 then (some false) else (rejoinderref02_may.l0 k ((i + 1 : Nat) : Int) c v))) (fun k => by simp) ?_
        refine Ev.bind (f := fun k t135 => (if t135 = 0 then (some false) else (rejoinderref02_may.l0 k ((i + 1 : Nat) : Int) c v))) (bit_ev c i hc (by omega)) ?_
        cases h2 : c.testBit i with
        | false => simpa using Ev.now false
        | true => simpa using ih (i + 1) (by omega)
theorem may_ev (c v : Nat) (hc : c < 256) (hv : v < 256) : Ev (fun k => rejoinderref02_may.f k c v) (mayB c v 0 8) := may_loop c v hc hv 8 0 (by omega)

/-- What a cube says of a proposition. -/
def sd (c v p : Nat) : Int := if c.testBit p = true then (((v.testBit p).toNat : Nat) : Int) else -1
theorem said_ev (c v p : Nat) (hc : c < 256) (hv : v < 256) (hp : p ≤ 8) : Ev (fun k => rejoinderref02_said.f k c v p) (sd c v p) := by
  refine Ev.congr (f := fun k => (rejoinderref02_Bit.f k c p).bind fun t140 => (if t140 = 0 then (some (-1)) else ((rejoinderref02_Bit.f k v p).bind fun t141 => (some t141)))) (fun k => rfl) ?_
  refine Ev.bind (f := fun k t140 => (if t140 = 0 then (some (-1)) else ((rejoinderref02_Bit.f k v p).bind fun t141 => (some t141)))) (bit_ev c p hc hp) ?_
  unfold sd
  cases h2 : c.testBit p with
  | false => simpa using Ev.now (-1 : Int)
  | true =>
    refine Ev.congr (f := fun k => (rejoinderref02_Bit.f k v p).bind fun t141 => (some t141)) (fun k => by simp) ?_
    refine Ev.bind (f := fun _ t141 => some t141) (bit_ev v p hv hp) ?_
    simpa using Ev.now _

def hasB (c v l i : Nat) : Nat → Bool
  | 0 => true
  | d + 1 => (!(c.testBit i) || v.testBit i == l.testBit i) && hasB c v l (i + 1) d
theorem hasB_iff (c v l : Nat) (d : Nat) : ∀ i, hasB c v l i d = true ↔ ∀ p, i ≤ p → p < i + d → c.testBit p = true → v.testBit p = l.testBit p := by
  induction d with
  | zero => intro i; simp only [hasB, true_iff]; intro p h1 h2; omega
  | succ d ih =>
    intro i
    simp only [hasB, Bool.and_eq_true, ih (i + 1)]
    constructor
    · intro ⟨h0, h⟩ p h1 h2 hv
      by_cases e : p = i
      · subst e; simpa [hv] using h0
      · exact h p (by omega) (by omega) hv
    · intro h
      refine ⟨?_, fun p h1 h2 => h p (by omega) (by omega)⟩
      cases hv : c.testBit i with
      | false => simp
      | true => simp [h i (Nat.le_refl _) (by omega) hv]
def HasB (c v l : Nat) : Bool := mayB c v 0 8 && hasB c v l 0 8
theorem HasB_iff (c v l : Nat) : HasB c v l = true ↔ May c v ∧ Has c v l := by
  unfold HasB
  rw [Bool.and_eq_true, mayB_may, hasB_iff]
  exact ⟨fun ⟨h, k⟩ => ⟨h, fun p hp => k p (Nat.zero_le _) (by omega)⟩, fun ⟨h, k⟩ => ⟨h, fun p _ hp => k p (by omega)⟩⟩
theorem has_loop (c v l : Nat) (hc : c < 256) (hv : v < 256) (hl : l < 256) (d : Nat) : ∀ i : Nat, i + d = 8 →
    Ev (fun k => rejoinderref02_Has.l0 k l i c v) (hasB c v l i d) := by
  induction d with
  | zero =>
    intro i hi
    refine Ev.of (fun k => (rejoinderref02_Has.mono_l k) _ _ _ _) (k := 1) ?_
    simp only [rejoinderref02_Has.l0, hasB]
    rw [if_neg (by omega)]
  | succ d ih =>
    intro i hi
    refine Ev.step (f := fun k => (rejoinderref02_said.f k c v i).bind fun t144 => (if t144 ≥ 0 then ((rejoinderref02_Bit.f k l i).bind fun t145 => (if t144 = t145 then (rejoinderref02_Has.l0 k l ((i + 1 : Nat) : Int) c v) else (some false))) else (rejoinderref02_Has.l0 k l ((i + 1 : Nat) : Int) c v))) (fun k => ?_) ?_
    · simp only [rejoinderref02_Has.l0]; rw [if_pos (by omega), wrap_inc (by omega)]
    · refine Ev.bind (f := fun k t144 => (if t144 ≥ 0 then ((rejoinderref02_Bit.f k l i).bind fun t145 => (if t144 = t145 then (rejoinderref02_Has.l0 k l ((i + 1 : Nat) : Int) c v) else (some false))) else (rejoinderref02_Has.l0 k l ((i + 1 : Nat) : Int) c v))) (said_ev c v i hc hv (by omega)) ?_
      simp only [hasB]
      unfold sd
      cases h1 : c.testBit i with
      | false => simpa using ih (i + 1) (by omega)
      | true =>
        refine Ev.congr (f := fun k => (rejoinderref02_Bit.f k l i).bind fun t145 => (if (((v.testBit i).toNat : Nat) : Int) = t145 then (rejoinderref02_Has.l0 k l ((i + 1 : Nat) : Int) c v) else (some false))) (fun k => by rw [if_pos rfl, if_pos (by omega)]) ?_
        refine Ev.bind (f := fun k t145 => (if (((v.testBit i).toNat : Nat) : Int) = t145 then (rejoinderref02_Has.l0 k l ((i + 1 : Nat) : Int) c v) else (some false))) (bit_ev l i hl (by omega)) ?_
        cases h2 : v.testBit i <;> cases h3 : l.testBit i
        · simpa using ih (i + 1) (by omega)
        · simpa using Ev.now false
        · simpa using Ev.now false
        · simpa using ih (i + 1) (by omega)
theorem has_ev (c v l : Nat) (hc : c < 256) (hv : v < 256) (hl : l < 256) : Ev (fun k => rejoinderref02_Has.f k c v l) (HasB c v l) := by
  refine Ev.congr (f := fun k => (rejoinderref02_may.f k c v).bind fun t143 => (if t143 = true then (rejoinderref02_Has.l0 k l 0 c v) else (some false))) (fun k => rfl) ?_
  refine Ev.bind (f := fun k t143 => (if t143 = true then (rejoinderref02_Has.l0 k l 0 c v) else (some false))) (may_ev c v hc hv) ?_
  unfold HasB
  cases h : mayB c v 0 8 with
  | false => simpa using Ev.now false
  | true => simpa using has_loop c v l hc hv hl 8 0 (by omega)

/-- How many letters both have. -/
def both (c v c' v' : Nat) : Nat := cnt (fun l => HasB c v l && HasB c' v' l) 0 256
theorem both_loop (c v c' v' : Nat) (hc : c < 256) (hv : v < 256) (hc' : c' < 256) (hv' : v' < 256) (d : Nat) : ∀ i n : Nat, i + d = 256 → n ≤ i →
    Ev (fun k => rejoinderref02_both.l0 k n i c v c' v') ((n + cnt (fun l => HasB c v l && HasB c' v' l) i d : Nat) : Int) := by
  induction d with
  | zero =>
    intro i n hi _
    refine Ev.of (fun k => (rejoinderref02_both.mono_l k) _ _ _ _ _ _) (k := 1) ?_
    simp only [rejoinderref02_both.l0, cnt]
    rw [if_neg (by omega)]; rfl
  | succ d ih =>
    intro i n hi hn
    have hm : (i : Int) % 256 = i := by omega
    refine Ev.step (f := fun k => (rejoinderref02_Has.f k c v i).bind fun t148 => (if t148 = true then ((rejoinderref02_Has.f k c' v' i).bind fun t149 => (if t149 = true then (rejoinderref02_both.l0 k ((n + 1 : Nat) : Int) ((i + 1 : Nat) : Int) c v c' v') else (rejoinderref02_both.l0 k n ((i + 1 : Nat) : Int) c v c' v'))) else (rejoinderref02_both.l0 k n ((i + 1 : Nat) : Int) c v c' v'))) (fun k => ?_) ?_
    · simp only [rejoinderref02_both.l0]; rw [if_pos (by omega), wrap_inc (by omega), wrap_inc (by omega), hm]
    · refine Ev.bind (f := fun k t148 => (if t148 = true then ((rejoinderref02_Has.f k c' v' i).bind fun t149 => (if t149 = true then (rejoinderref02_both.l0 k ((n + 1 : Nat) : Int) ((i + 1 : Nat) : Int) c v c' v') else (rejoinderref02_both.l0 k n ((i + 1 : Nat) : Int) c v c' v'))) else (rejoinderref02_both.l0 k n ((i + 1 : Nat) : Int) c v c' v'))) (has_ev c v i hc hv (by omega)) ?_
      simp only [cnt]
      rcases Bool.eq_false_or_eq_true (HasB c v i) with h1 | h1
      · refine Ev.congr (f := fun k => (rejoinderref02_Has.f k c' v' i).bind fun t149 => (if t149 = true then (rejoinderref02_both.l0 k ((n + 1 : Nat) : Int) ((i + 1 : Nat) : Int) c v c' v') else (rejoinderref02_both.l0 k n ((i + 1 : Nat) : Int) c v c' v'))) (fun k => by rw [if_pos h1]) ?_
        refine Ev.bind (f := fun k t149 => (if t149 = true then (rejoinderref02_both.l0 k ((n + 1 : Nat) : Int) ((i + 1 : Nat) : Int) c v c' v') else (rejoinderref02_both.l0 k n ((i + 1 : Nat) : Int) c v c' v'))) (has_ev c' v' i hc' hv' (by omega)) ?_
        rcases Bool.eq_false_or_eq_true (HasB c' v' i) with h2 | h2
        · have := ih (i + 1) (n + 1) (by omega) (by omega)
          simpa [h1, h2, Nat.add_assoc] using this
        · have := ih (i + 1) n (by omega) (by omega)
          simpa [h1, h2] using this
      · have := ih (i + 1) n (by omega) (by omega)
        simpa [h1] using this
theorem both_ev (c v c' v' : Nat) (hc : c < 256) (hv : v < 256) (hc' : c' < 256) (hv' : v' < 256) :
    Ev (fun k => rejoinderref02_both.f k c v c' v') ((both c v c' v' : Nat) : Int) := by
  have h := both_loop c v c' v' hc hv hc' hv' 256 0 0 (by omega) (by omega)
  rw [Nat.zero_add] at h
  exact h
/-- No letter of both. -/
theorem both_zero (c v c' v' : Nat) (hv : v < 256) (hv' : v' < 256) : both c v c' v' = 0 ↔ ¬ (May c v ∧ May c' v' ∧ Agree c v c' v') := by
  unfold both
  rw [cnt_zero]
  constructor
  · intro h ⟨h1, h2, h3⟩
    obtain ⟨k1, k2⟩ := has_both h1 h2 h3
    have := h (v ||| v') (Nat.zero_le _) (by have := or_lt hv hv'; omega)
    rw [(HasB_iff _ _ _).2 ⟨h1, k1⟩, (HasB_iff _ _ _).2 ⟨h2, k2⟩] at this
    cases this
  · intro h l _ _
    cases e1 : HasB c v l with
    | false => rfl
    | true =>
      cases e2 : HasB c' v' l with
      | false => rfl
      | true =>
        obtain ⟨h1, k1⟩ := (HasB_iff _ _ _).1 e1
        obtain ⟨h2, k2⟩ := (HasB_iff _ _ _).1 e2
        exact absurd ⟨h1, h2, agree_of k1 k2⟩ h
theorem both_own (c v : Nat) (hv : v < 256) : both c v c v = 0 ↔ ¬ May c v := by
  rw [both_zero c v c v hv hv]
  exact not_congr ⟨fun h => h.1, fun h => ⟨h, h, fun _ _ _ _ => rfl⟩⟩
theorem both_within (c v c' v' : Nat) (hc : c < 256) (hv : v < 256) (hc' : c' < 256) (hv' : v' < 256) :
    both c v c' v' = both c v c v ↔ (May c v → (May c' v' ∧ Agree c v c' v' ∧ c ||| c' = c ∧ v ||| v' = v)) := by
  rw [← CubeNat.within_iff hc hc' hv hv']
  unfold both
  rw [cnt_same (fun l h => by rw [Bool.and_eq_true] at h; simp [h.1])]
  constructor
  · intro h hm l hl hh
    have := h l (Nat.zero_le _) (by omega) (by rw [(HasB_iff _ _ _).2 ⟨hm, hh⟩]; rfl)
    rw [Bool.and_eq_true] at this
    exact (HasB_iff _ _ _).1 this.2
  · intro h l _ hl hh
    rw [Bool.and_self] at hh
    obtain ⟨h1, h2⟩ := (HasB_iff _ _ _).1 hh
    rw [hh, (HasB_iff _ _ _).2 (h h1 l (by omega) h2)]
    rfl
end Go.Proofs.Ytpnocpfagbfboaa.RPCubeCalls
