/- What the program's Check, Letters, Count, Print, Parse, and the cubes of Cover come to, said of bits. Conditions: numbers below 256, at most 8 propositions. -/
import Derived.Test.YtpnocpfagbfboaaPCubex3
import Derived.Test.YtpnocpfagbfboaaCubeCov
namespace Go.Proofs.Ytpnocpfagbfboaa.PCube
open Go.RowKit Go.Proofs.YtpnocpfagbfboaaW.PrintWords Go.Proofs.YtpnocpfagbfboaaW.PrintLast Go.Proofs.YtpnocpfagbfboaaW.PrintMore Go.Proofs.Ytpnocpfagbfboaa.CubeNat
theorem wrap_inc {i : Nat} (h : i ≤ 1000000) : wrap64 ((i : Int) + 1) = ((i + 1 : Nat) : Int) := by unfold wrap64; omega
/-! ### Cover's cubes -/
theorem cover_many (N : Nat) (hN : N ≤ 8) (il : List Bool) (l : Nat) (hl : l < 2 ^ N) (d : Nat) : ∀ p v, p + d = N → v < 2 ^ p → May (2 ^ p - 1) v →
    many l (coverN il (2 ^ N) d p (2 ^ p - 1) v) = if (HasB (2 ^ p - 1) v l && il.getD l false) = true then 1 else 0 := by
  have none_ : ∀ c v, someN il c v (2 ^ N) = false → (HasB c v l && il.getD l false) = false := by
    intro c v h
    cases h1 : HasB c v l with
    | false => rfl
    | true =>
      cases h2 : il.getD l false with
      | false => rfl
      | true => rw [(someN_iff _ _ _ _).2 ⟨l, hl, h1, h2⟩] at h; cases h
  have all_ : ∀ c v, everyN il c v (2 ^ N) = true → (HasB c v l && il.getD l false) = HasB c v l := by
    intro c v h
    cases h1 : HasB c v l with
    | false => rfl
    | true => rw [(everyN_iff _ _ _ _).1 h l hl h1]; rfl
  have single : ∀ c v, everyN il c v (2 ^ N) = true → many l [(c, v)] = if (HasB c v l && il.getD l false) = true then 1 else 0 := by
    intro c v h
    rw [all_ c v h]
    unfold many
    rw [List.countP_cons, List.countP_nil, Nat.zero_add]
  induction d with
  | zero =>
    intro p v hp hv hm
    obtain rfl : p = N := by omega
    rcases Bool.eq_false_or_eq_true (someN il (2 ^ p - 1) v (2 ^ p)) with h | h
    · rw [cover_all h (last_one hN hv il h), single _ _ (last_one hN hv il h)]
    · rw [cover_none h, none_ _ _ h]; rfl
  | succ d ih =>
    intro p v hp hv hm
    rcases Bool.eq_false_or_eq_true (someN il (2 ^ p - 1) v (2 ^ N)) with h | h
    · rcases Bool.eq_false_or_eq_true (everyN il (2 ^ p - 1) v (2 ^ N)) with k | k
      · rw [cover_all h k, single _ _ k]
      · have hp7 : p < 8 := by omega
        have h1 : 2 ^ (p + 1) - 1 = (2 ^ p - 1) ||| 2 ^ p := by
          apply Nat.eq_of_testBit_eq
          intro q
          rw [Nat.testBit_or, Nat.testBit_two_pow_sub_one, Nat.testBit_two_pow_sub_one, tb_pow, Bool.eq_iff_iff, Bool.or_eq_true, decide_eq_true_iff, decide_eq_true_iff, decide_eq_true_iff]
          omega
        have hv2 : v < 2 ^ (p + 1) := Nat.lt_of_lt_of_le hv (Nat.pow_le_pow_right (by decide) (by omega))
        have hvB : v ||| 2 ^ p < 2 ^ (p + 1) := Nat.or_lt_two_pow hv2 (Nat.pow_lt_pow_right (by decide) (by omega))
        have hcf : (2 ^ p - 1).testBit p = false := by rw [Nat.testBit_two_pow_sub_one]; simp
        have i0 := ih (p + 1) v (by omega) hv2 (by rw [h1]; exact said_may (b := false) hm)
        have i1 := ih (p + 1) (v ||| 2 ^ p) (by omega) hvB (by rw [h1]; exact said_may (b := true) hm)
        have s0 := said_has (b := false) (l := l) hm hp7 hcf
        have s1 := said_has (b := true) (l := l) hm hp7 hcf
        unfold saidB at s0 s1
        simp only [Bool.false_eq_true, if_false, if_true] at s0 s1
        rw [h1] at i0 i1
        rw [s0] at i0
        rw [s1] at i1
        simp only [coverN, h, k, if_true, Bool.false_eq_true, if_false]
        unfold many at i0 i1 ⊢
        rw [List.countP_append, i0, i1]
        cases HasB (2 ^ p - 1) v l <;> cases il.getD l false <;> cases l.testBit p <;> rfl
    · rw [cover_none h, none_ _ _ h]; rfl
theorem cover_lt (N : Nat) (hN : N ≤ 8) (il : List Bool) (M : Nat) (d : Nat) : ∀ p c v, p + d = N → c < 256 → v < 256 → ∀ s ∈ coverN il M d p c v, s.1 < 256 ∧ s.2 < 256 := by
  induction d with
  | zero =>
    intro p c v _ hc hv s hs
    unfold coverN at hs
    split at hs
    · split at hs
      · rcases List.mem_singleton.1 hs with rfl; exact ⟨hc, hv⟩
      · cases hs
    · cases hs
  | succ d ih =>
    intro p c v hp hc hv s hs
    unfold coverN at hs
    have h8 : 2 ^ p < 256 := pow_lt8 (by omega)
    split at hs
    · split at hs
      · rcases List.mem_singleton.1 hs with rfl; exact ⟨hc, hv⟩
      · rcases List.mem_append.1 hs with hs | hs
        · exact ih (p + 1) _ _ (by omega) (or_lt hc h8) hv s hs
        · exact ih (p + 1) _ _ (by omega) (or_lt hc h8) (or_lt hv h8) s hs
    · cases hs
theorem has_free (l : Nat) : HasB 0 0 l = true := by
  rw [HasB_iff]
  exact ⟨fun p _ h => by simp at h, fun p _ h => by simp at h⟩
/-- Of all letters: the one cube that says nothing. -/
theorem cover_whole (N : Nat) (il : List Bool) (h : ∀ l, l < 2 ^ N → il.getD l false = true) : coverN il (2 ^ N) N 0 0 0 = [(0, 0)] := by
  refine cover_all ?_ ?_
  · rw [someN_iff]; exact ⟨0, Nat.two_pow_pos N, has_free 0, h 0 (Nat.two_pow_pos N)⟩
  · rw [everyN_iff]; intro l hl _; exact h l hl
/-! ### Check -/
def checkI (a : Int) (c v : Nat) : Int := if 0 ≤ a ∧ a ≤ 8 then (if outB c a.toNat (8 - a.toNat) = true then 120 else if mayB c v 0 8 = true then 0 else 120) else 2
theorem pcheck (a : Int) (c v : Nat) (hc : c < 256) (hv : v < 256) : cube_Check.f a c v = some (checkI a c v) := by
  unfold cube_Check.f cube_bound.f checkI
  by_cases h0 : 0 ≤ a
  · by_cases h8 : a ≤ 8
    · rw [if_pos h0, decide_eq_true h8, if_pos ⟨h0, h8⟩]
      simp only [Option.bind_some, if_true]
      rw [pmay c v hc hv]
      simp only [Option.bind_some]
      obtain ⟨n, rfl⟩ := Int.eq_ofNat_of_zero_le h0
      have hn : n ≤ 8 := by omega
      rw [pall n hn, Int.toNat_natCast]
      simp only [Option.bind_some]
      rw [u8_andNot_nat c _ hc (mask_lt hn)]
      have ho := out_iff hc hn
      rcases Bool.eq_false_or_eq_true (mayB c v 0 8) with h | h
      · rw [if_pos h]
        rcases Bool.eq_false_or_eq_true (outB c n (8 - n)) with k | k
        · rw [if_pos k, if_neg]
          intro e
          rw [ho.1 (by exact_mod_cast e)] at k
          cases k
        · rw [if_neg (show ¬ outB c n (8 - n) = true by simp [k]), if_pos (show ((c &&& (255 - (2 ^ n - 1)) : Nat) : Int) = 0 by exact_mod_cast ho.2 k), h]; rfl
      · rw [if_neg (by simp [h]), if_neg (show ¬ mayB c v 0 8 = true by simp [h])]
        split <;> rfl
    · rw [if_pos h0, decide_eq_false h8, if_neg (fun h => h8 h.2)]; rfl
  · rw [if_neg h0, if_neg (fun h => h0 h.1)]; rfl
/-- A cube that is of N propositions. -/
theorem check_ok {N c v : Nat} (hN : N ≤ 8) (hc : c < 256) : checkI N c v = 0 ↔ (c < 2 ^ N ∧ May c v) := by
  unfold checkI
  rw [if_pos (by omega), Int.toNat_natCast]
  have ho : outB c N (8 - N) = false ↔ c < 2 ^ N := by rw [← out_iff hc hN, mask_in hN hc]
  rcases Bool.eq_false_or_eq_true (outB c N (8 - N)) with h | h
  · rw [if_pos h]
    have : ¬ c < 2 ^ N := fun e => by rw [ho.2 e] at h; cases h
    constructor
    · intro e; cases e
    · intro ⟨e, _⟩; exact absurd e this
  · rw [if_neg (by simp [h])]
    rcases Bool.eq_false_or_eq_true (mayB c v 0 8) with k | k
    · rw [if_pos k]; exact ⟨fun _ => ⟨ho.1 h, (mayB_may c v).1 k⟩, fun _ => rfl⟩
    · rw [if_neg (by simp [k])]
      constructor
      · intro e; cases e
      · intro ⟨_, e⟩; rw [(mayB_may c v).2 e] at k; cases k
theorem shl_i64 (N : Nat) (h : N ≤ 8) : shl .i64 1 (N : Int) = ((2 ^ N : Nat) : Int) := by
  have : N = 0 ∨ N = 1 ∨ N = 2 ∨ N = 3 ∨ N = 4 ∨ N = 5 ∨ N = 6 ∨ N = 7 ∨ N = 8 := by omega
  rcases this with rfl | rfl | rfl | rfl | rfl | rfl | rfl | rfl | rfl <;> decide +kernel
/-! ### Letters, Count -/
/-- The cube's letters below i + d, from i on. -/
def lettersN (c v i : Nat) : Nat → List Nat
  | 0 => []
  | d + 1 => if HasB c v i = true then i :: lettersN c v (i + 1) d else lettersN c v (i + 1) d
theorem letters_len (c v : Nat) (d : Nat) : ∀ i, (lettersN c v i d).length = cnt (fun l => HasB c v l) i d := by
  induction d with
  | zero => intro i; rfl
  | succ d ih =>
    intro i
    unfold lettersN cnt
    split
    · rw [List.length_cons, ih]; omega
    · rw [ih]; omega
theorem letters_loop (c v M : Nat) (hc : c < 256) (hv : v < 256) (hM : M ≤ 256) (d : Nat) : ∀ (i : Nat) (out : List Int), i + d = M → out.length ≤ i →
    Ev (fun k => cube_Letters.l0 k out M i c v) (out ++ (lettersN c v i d).map (fun x : Nat => (x : Int)), 0) := by
  induction d with
  | zero =>
    intro i out hi hl
    refine Ev.of (fun k => (cube_Letters.mono_l k) _ _ _ _ _) (k := 1) ?_
    simp only [cube_Letters.l0, lettersN, List.map_nil, List.append_nil]
    rw [if_neg (by omega)]
  | succ d ih =>
    intro i out hi hl
    have hm : (i : Int) % 256 = i := by omega
    rcases Bool.eq_false_or_eq_true (HasB c v i) with h | h
    · have := ih (i + 1) (out ++ [(i : Int)]) (by omega) (by simp; omega)
      simp only [lettersN, h, if_true, List.map_cons]
      rw [List.append_assoc, List.singleton_append] at this
      refine Ev.step (fun k => ?_) this
      simp only [cube_Letters.l0]
      rw [if_pos (by omega), hm, phas c v i hc hv (by omega)]
      simp only [Option.bind_some, h, if_true]
      rw [if_pos (by omega), wrap_inc (by omega)]
    · simp only [lettersN, h, Bool.false_eq_true, if_false]
      refine Ev.step (fun k => ?_) (ih (i + 1) out (by omega) (by omega))
      simp only [cube_Letters.l0]
      rw [if_pos (by omega), hm, phas c v i hc hv (by omega)]
      simp only [Option.bind_some, h, Bool.false_eq_true, if_false]
      rw [wrap_inc (by omega)]
theorem pletters {N c v : Nat} (hN : N ≤ 8) (hc : c < 256) (hv : v < 256) (hk : checkI N c v = 0) : Ev (fun k => cube_Letters.f k N c v) ((lettersN c v 0 (2 ^ N)).map (fun x : Nat => (x : Int)), 0) := by
  have h256 : 2 ^ N ≤ 256 := Nat.pow_le_pow_right (n := 2) (i := N) (j := 8) (by decide) hN
  refine Ev.congr (fun k => ?_) (letters_loop c v (2 ^ N) hc hv h256 (2 ^ N) 0 [] (by omega) (Nat.le_refl _))
  unfold cube_Letters.f
  rw [pcheck N c v hc hv, hk]
  simp only [Option.bind_some]
  rw [if_pos trivial, if_pos (by omega), shl_i64 N hN]
  rfl
/-- How many letters of n propositions agree with a cube there. -/
def agreeB (c v l : Nat) : Nat → Bool
  | 0 => true
  | n + 1 => (!(c.testBit n) || v.testBit n == l.testBit n) && agreeB c v l n
def freeN (c : Nat) : Nat → Nat
  | 0 => 0
  | n + 1 => (if c.testBit n = true then 0 else 1) + freeN c n
theorem agreeB_iff (c v l : Nat) (n : Nat) : agreeB c v l n = true ↔ ∀ p, p < n → c.testBit p = true → v.testBit p = l.testBit p := by
  induction n with
  | zero => simp [agreeB]
  | succ n ih =>
    simp only [agreeB, Bool.and_eq_true, ih]
    constructor
    · intro ⟨h0, h⟩ p h1 h2
      by_cases e : p = n
      · subst e; simpa [h2] using h0
      · exact h p (by omega) h2
    · intro h
      refine ⟨?_, fun p h1 h2 => h p (by omega) h2⟩
      cases h2 : c.testBit n with
      | false => rfl
      | true => simp [h n (by omega) h2]
theorem cnt_split (f : Nat → Bool) (a : Nat) : ∀ b i, cnt f i (a + b) = cnt f i a + cnt f (i + a) b := by
  induction a with
  | zero => intro b i; simp [cnt]
  | succ a ih =>
    intro b i
    rw [Nat.succ_add]
    simp only [cnt]
    rw [ih b (i + 1), show i + 1 + a = i + (a + 1) from by omega]
    omega
theorem cnt_congr {f g : Nat → Bool} (d : Nat) : ∀ i j, (∀ t, t < d → f (i + t) = g (j + t)) → cnt f i d = cnt g j d := by
  induction d with
  | zero => intro i j _; rfl
  | succ d ih =>
    intro i j h
    unfold cnt
    rw [show f i = g j from h 0 (by omega), ih (i + 1) (j + 1) (fun t ht => by have := h (t + 1) (by omega); rwa [show i + 1 + t = i + (t + 1) from by omega, show j + 1 + t = j + (t + 1) from by omega])]
theorem cnt_never {f : Nat → Bool} (d : Nat) (i : Nat) (h : ∀ t, t < d → f (i + t) = false) : cnt f i d = 0 := by
  rw [cnt_zero]
  intro j h1 h2
  have := h (j - i) (by omega)
  rwa [show i + (j - i) = j from by omega] at this
theorem agree_count (c v : Nat) (n : Nat) : cnt (fun l => agreeB c v l n) 0 (2 ^ n) = 2 ^ freeN c n := by
  induction n with
  | zero => rfl
  | succ n ih =>
    rw [Nat.pow_succ, show 2 ^ n * 2 = 2 ^ n + 2 ^ n from by omega, cnt_split, Nat.zero_add]
    have low : ∀ t, t < 2 ^ n → t.testBit n = false := fun t ht => Nat.testBit_lt_two_pow ht
    have high : ∀ t, t < 2 ^ n → (2 ^ n + t).testBit n = true := fun t ht => by rw [Nat.testBit_two_pow_add_eq, low t ht]; rfl
    have same : ∀ t, agreeB c v (2 ^ n + t) n = agreeB c v t n := fun t => by
      rw [Bool.eq_iff_iff, agreeB_iff, agreeB_iff]
      constructor
      · intro h p hp hc; rw [h p hp hc, Nat.testBit_two_pow_add_gt hp]
      · intro h p hp hc; rw [h p hp hc, Nat.testBit_two_pow_add_gt hp]
    simp only [freeN]
    cases hc : c.testBit n with
    | false =>
      have e1 : cnt (fun l => agreeB c v l (n + 1)) 0 (2 ^ n) = cnt (fun l => agreeB c v l n) 0 (2 ^ n) := cnt_congr _ _ _ (fun t ht => by simp [agreeB, hc])
      have e2 : cnt (fun l => agreeB c v l (n + 1)) (2 ^ n) (2 ^ n) = cnt (fun l => agreeB c v l n) 0 (2 ^ n) := cnt_congr _ _ _ (fun t ht => by simp [agreeB, hc, same])
      rw [e1, e2, ih]
      simp only [Bool.false_eq_true, if_false]
      rw [Nat.pow_add]; omega
    | true =>
      simp only [if_true, Nat.zero_add]
      rw [← ih]
      cases hv : v.testBit n with
      | false =>
        have e1 : cnt (fun l => agreeB c v l (n + 1)) 0 (2 ^ n) = cnt (fun l => agreeB c v l n) 0 (2 ^ n) := cnt_congr _ _ _ (fun t ht => by simp [agreeB, hv, low t ht])
        have e2 : cnt (fun l => agreeB c v l (n + 1)) (2 ^ n) (2 ^ n) = 0 := cnt_never _ _ (fun t ht => by simp [agreeB, hc, hv, high t ht])
        rw [e1, e2]; rfl
      | true =>
        have e1 : cnt (fun l => agreeB c v l (n + 1)) 0 (2 ^ n) = 0 := cnt_never _ _ (fun t ht => by simp [agreeB, hc, hv, low t ht])
        have e2 : cnt (fun l => agreeB c v l (n + 1)) (2 ^ n) (2 ^ n) = cnt (fun l => agreeB c v l n) 0 (2 ^ n) := cnt_congr _ _ _ (fun t ht => by simp [agreeB, hv, high t ht, same])
        rw [e1, e2]; omega
theorem free_ones {N c : Nat} (hN : N ≤ 8) (hc : c < 2 ^ N) : freeN c N + ones c = N := by
  have hb : ∀ p, c / 2 ^ p % 2 = (c.testBit p).toNat := bit_val c
  have hz : ∀ p, N ≤ p → c.testBit p = false := fun p hp => Nat.testBit_lt_two_pow (Nat.lt_of_lt_of_le hc (Nat.pow_le_pow_right (by decide) hp))
  have ho : ones c = (c.testBit 0).toNat + (c.testBit 1).toNat + (c.testBit 2).toNat + (c.testBit 3).toNat + (c.testBit 4).toNat + (c.testBit 5).toNat + (c.testBit 6).toNat + (c.testBit 7).toNat := by
    unfold ones
    rw [← hb 0, ← hb 1, ← hb 2, ← hb 3, ← hb 4, ← hb 5, ← hb 6, ← hb 7]
    simp
  have fr : ∀ n, freeN c n + (List.range n).foldl (fun s p => s + (c.testBit p).toNat) 0 = n := by
    intro n
    induction n with
    | zero => rfl
    | succ n ih =>
      rw [List.range_succ, List.foldl_append]
      simp only [freeN, List.foldl_cons, List.foldl_nil]
      cases c.testBit n <;> simp <;> omega
  have h := fr N
  have : N = 0 ∨ N = 1 ∨ N = 2 ∨ N = 3 ∨ N = 4 ∨ N = 5 ∨ N = 6 ∨ N = 7 ∨ N = 8 := by omega
  rw [ho]
  rcases this with rfl | rfl | rfl | rfl | rfl | rfl | rfl | rfl | rfl <;> simp [List.range_succ, hz] at h ⊢ <;> omega
theorem has_agree {N c v l : Nat} (hc : c < 2 ^ N) (hN : N ≤ 8) (hm : May c v) : HasB c v l = agreeB c v l N := by
  rw [Bool.eq_iff_iff, HasB_iff, agreeB_iff]
  constructor
  · intro ⟨_, h⟩ p hp h1; exact h p (by omega) h1
  · intro h
    refine ⟨hm, fun p _ h1 => ?_⟩
    by_cases hp : p < N
    · exact h p hp h1
    · rw [Nat.testBit_lt_two_pow (Nat.lt_of_lt_of_le hc (Nat.pow_le_pow_right (by decide) (by omega)))] at h1; cases h1
theorem pcount {N c v : Nat} (hN : N ≤ 8) (hc : c < 256) (hv : v < 256) (hk : checkI N c v = 0) :
    cube_Count.f N c v = some (((lettersN c v 0 (2 ^ N)).length : Int), 0) := by
  obtain ⟨h1, h2⟩ := (check_ok hN hc).1 hk
  have hf := free_ones hN h1
  unfold cube_Count.f
  rw [pcheck N c v hc hv, hk]
  simp only [Option.bind_some]
  rw [if_pos trivial]
  unfold bits_OnesCount8.f
  rw [if_pos (by omega), Int.toNat_natCast]
  simp only [Option.bind_some]
  have hw : wrap64 ((N : Int) - (ones c : Int)) = (freeN c N : Int) := by unfold wrap64; omega
  rw [hw, if_pos (by omega), shl_i64 _ (by omega), letters_len, ← agree_count c v N]
  rw [cnt_congr (f := fun l => HasB c v l) (g := fun l => agreeB c v l N) (2 ^ N) 0 0 (fun t _ => has_agree h1 hN h2)]
theorem letters_some {N c v : Nat} (hN : N ≤ 8) (hc : c < 256) (hk : checkI N c v = 0) : 0 < (lettersN c v 0 (2 ^ N)).length := by
  obtain ⟨h1, h2⟩ := (check_ok hN hc).1 hk
  rw [letters_len, cnt_congr (f := fun l => HasB c v l) (g := fun l => agreeB c v l N) (2 ^ N) 0 0 (fun t _ => has_agree h1 hN h2), agree_count]
  exact Nat.two_pow_pos _
/-! ### Print, and Parse of what it prints -/
def sign (c v p : Nat) : Int := if c.testBit p = true then (if v.testBit p = true then 49 else 48) else 45
/-- A cube's text, byte by byte. -/
def textN (c v : Nat) (n : Nat) : List Int := (List.range n).map (sign c v)
theorem bit_and (c p : Nat) (_hp : p < 8) : (c &&& 2 ^ p = 0) ↔ c.testBit p = false := by
  have h2 := Nat.two_pow_pos p
  rw [nat_bit, bit_val]
  cases c.testBit p <;> simp
theorem shl_u8 (p : Nat) (h : p < 8) : shl .u8 1 (p : Int) = ((2 ^ p : Nat) : Int) := by
  have : p = 0 ∨ p = 1 ∨ p = 2 ∨ p = 3 ∨ p = 4 ∨ p = 5 ∨ p = 6 ∨ p = 7 := by omega
  rcases this with rfl | rfl | rfl | rfl | rfl | rfl | rfl | rfl <;> decide +kernel
theorem set_next (c v i d : Nat) (x : Int) (hx : x = sign c v i) : (textN c v i ++ List.replicate (d + 1) 0).set i x = textN c v (i + 1) ++ List.replicate d 0 := by
  have hl : (textN c v i).length = i := by simp [textN]
  rw [List.set_append_right _ _ (by omega), hl, Nat.sub_self, List.replicate_succ, List.set_cons_zero]
  unfold textN
  rw [List.range_succ, List.map_append, List.append_assoc, hx]
  rfl
theorem print_loop (c v N : Nat) (hc : c < 256) (hv : v < 256) (hN : N ≤ 8) (d : Nat) : ∀ i, i + d = N →
    Ev (fun k => cube_Print.l0 k (textN c v i ++ List.replicate d 0) N i c v) (strOfNums (textN c v N), 0) := by
  induction d with
  | zero =>
    intro i hi
    obtain rfl : i = N := by omega
    refine Ev.of (fun k => (cube_Print.mono_l k) _ _ _ _ _) (k := 1) ?_
    simp only [cube_Print.l0, List.replicate_zero, List.append_nil]
    rw [if_neg (by omega)]
  | succ d ih =>
    intro i hi
    have h8 : i < 8 := by omega
    have hlen : (i : Int) < ((textN c v i ++ List.replicate (d + 1) (0 : Int)).length : Int) := by simp [textN]; omega
    refine Ev.step (fun k => ?_) (ih (i + 1) (by omega))
    simp only [cube_Print.l0]
    rw [if_pos (by omega), if_pos (by omega), shl_u8 i h8, u8_and_nat c _ hc (pow_lt8 h8), u8_and_nat v _ hv (pow_lt8 h8), wrap_inc (by omega), Int.toNat_natCast, if_pos hlen, if_pos hlen, if_pos hlen]
    rcases Bool.eq_false_or_eq_true (c.testBit i) with h1 | h1
    · rw [if_neg (by have := mt (bit_and c i h8).1 (by simp [h1]); exact_mod_cast this)]
      rcases Bool.eq_false_or_eq_true (v.testBit i) with h2 | h2
      · rw [if_neg (by have := mt (bit_and v i h8).1 (by simp [h2]); exact_mod_cast this), set_next c v i d 49 (by unfold sign; simp [h1, h2])]
      · rw [if_pos (by have := (bit_and v i h8).2 h2; exact_mod_cast this), set_next c v i d 48 (by unfold sign; simp [h1, h2])]
    · rw [if_pos (by have := (bit_and c i h8).2 h1; exact_mod_cast this), set_next c v i d 45 (by unfold sign; simp [h1])]
theorem pprint {N c v : Nat} (hN : N ≤ 8) (hc : c < 256) (hv : v < 256) (hk : checkI N c v = 0) : Ev (fun k => cube_Print.f k N c v) (strOfNums (textN c v N), 0) := by
  refine Ev.congr (fun k => ?_) (print_loop c v N hc hv hN N 0 (by omega))
  unfold cube_Print.f
  rw [pcheck N c v hc hv, hk]
  simp only [Option.bind_some]
  rw [if_pos trivial, if_pos (by omega), if_pos (by omega), Int.toNat_natCast]
  simp [textN]
theorem text_size (c v N : Nat) : (strOfNums (textN c v N)).size = N := by
  show (strOfNums (textN c v N)).data.size = N
  simp [strOfNums, textN]
theorem text_at (c v N i : Nat) (h : i < N) : bt (strOfNums (textN c v N)) i = sign c v i := by
  unfold bt
  rw [Int.toNat_natCast]
  have h2 : i < (strOfNums (textN c v N)).size := by rw [text_size]; exact h
  rw [dif_pos h2]
  have : (strOfNums (textN c v N))[i]'h2 = UInt8.ofNat (sign c v i).toNat := by
    show (strOfNums (textN c v N)).data[i]'h2 = _
    simp [strOfNums, textN]
  rw [this]
  unfold sign
  split
  · split <;> decide
  · decide
/-- What has been read of the first i bytes. -/
def partC (c i : Nat) : Nat := c &&& (2 ^ i - 1)
theorem part_bit (c i p : Nat) : (partC c i).testBit p = (decide (p < i) && c.testBit p) := by
  unfold partC
  rw [Nat.testBit_and, Nat.testBit_two_pow_sub_one, Bool.and_comm]
theorem part_lt {c i : Nat} (hc : c < 256) : partC c i < 256 := and_lt hc
theorem part_next {c i : Nat} (hc : c < 256) (hi : i < 8) : partC c (i + 1) = if c.testBit i = true then partC c i ||| 2 ^ i else partC c i := by
  refine ext8 (part_lt hc) (by split; exact or_lt (part_lt hc) (pow_lt8 hi); exact part_lt hc) fun p _ => ?_
  rw [part_bit]
  by_cases h : c.testBit i = true
  · rw [if_pos h, Nat.testBit_or, part_bit, tb_pow]
    by_cases e : i = p
    · subst e; simp [h]
    · by_cases e2 : p < i
      · simp [e, e2, Nat.lt_succ_of_lt e2]
      · have : ¬ p < i + 1 := by omega
        simp [e, e2, this]
  · rw [if_neg h, part_bit]
    by_cases e : i = p
    · subst e; simp [h]
    · by_cases e2 : p < i
      · simp [e2, Nat.lt_succ_of_lt e2]
      · have : ¬ p < i + 1 := by omega
        simp [e2, this]
theorem parse_loop {c v N : Nat} (hc : c < 256) (hv : v < 256) (hN : N ≤ 8) (hm : May c v) (d : Nat) : ∀ i, i + d = N →
    Ev (fun k => cube_Parse.l0 k (strOfNums (textN c v N)) N i (partC c i) (partC v i)) ((partC c N : Nat), ((partC v N : Nat) : Int), 0) := by
  induction d with
  | zero =>
    intro i hi
    obtain rfl : i = N := by omega
    refine Ev.of (fun k => (cube_Parse.mono_l k) _ _ _ _ _) (k := 1) ?_
    simp only [cube_Parse.l0]
    rw [if_neg (by omega)]
  | succ d ih =>
    intro i hi
    have h8 : i < 8 := by omega
    have hs := text_size c v N
    refine Ev.step (fun k => ?_) (ih (i + 1) (by omega))
    simp only [cube_Parse.l0]
    rw [if_pos (by omega), if_pos (by omega), if_pos (by omega), text_at c v N i (by omega), shl_u8 i h8, wrap_inc (by omega), u8_or_nat _ _ (part_lt hc) (pow_lt8 h8), u8_or_nat _ _ (part_lt hv) (pow_lt8 h8), part_next hc h8, part_next hv h8]
    unfold sign
    rcases Bool.eq_false_or_eq_true (c.testBit i) with h1 | h1
    · rcases Bool.eq_false_or_eq_true (v.testBit i) with h2 | h2
      · simp [h1, h2]
      · simp [h1, h2]
    · have h2 : v.testBit i = false := by
        cases h : v.testBit i with
        | false => rfl
        | true => rw [hm i h8 h] at h1; cases h1
      simp [h1, h2]
theorem part_all {c N : Nat} (h : c < 2 ^ N) : partC c N = c := by
  unfold partC
  rw [Nat.and_two_pow_sub_one_eq_mod]
  exact Nat.mod_eq_of_lt h
theorem pparse {N c v : Nat} (hN : N ≤ 8) (hc : c < 256) (hv : v < 256) (hk : checkI N c v = 0) : Ev (fun k => cube_Parse.f k N (strOfNums (textN c v N))) (c, v, 0) := by
  obtain ⟨h1, h2⟩ := (check_ok hN hc).1 hk
  have hv2 : v < 2 ^ N := by
    apply Nat.lt_pow_two_of_testBit
    intro p hp
    cases hb : v.testBit p with
    | false => rfl
    | true =>
      by_cases h8 : p < 8
      · have := h2 p h8 hb
        rw [Nat.testBit_lt_two_pow (Nat.lt_of_lt_of_le h1 (Nat.pow_le_pow_right (by decide) hp))] at this; cases this
      · rw [tb_hi hv (by omega)] at hb; cases hb
  have := parse_loop hc hv hN h2 N 0 (by omega)
  rw [part_all h1, part_all hv2] at this
  refine Ev.congr (fun k => ?_) this
  unfold cube_Parse.f
  rw [bound_ok hN]
  simp only [Option.bind_some, if_true]
  rw [if_pos (by rw [text_size])]
  simp [partC]
/-! ### every, Pick -/
/-- All letters, from the greatest on. -/
def downN : Nat → List Nat
  | 0 => []
  | n + 1 => n :: downN n
theorem down_mem (n l : Nat) : l ∈ downN n ↔ l < n := by
  induction n with
  | zero => simp [downN]
  | succ n ih => simp only [downN, List.mem_cons, ih]; omega
theorem down_len (n : Nat) : (downN n).length = n := by
  induction n with
  | zero => rfl
  | succ n ih => simp [downN, ih]
theorem every_loop (d : Nat) : ∀ (out : List Int), d ≤ 256 → out.length + d ≤ 256 →
    Ev (fun k => rejoinderlaw02_every.l0 k out ((d : Int) - 1)) (out ++ (downN d).map (fun x : Nat => (x : Int))) := by
  induction d with
  | zero =>
    intro out _ _
    refine Ev.of (fun k => (rejoinderlaw02_every.mono_l k) _ _) (k := 1) ?_
    simp only [rejoinderlaw02_every.l0, downN, List.map_nil, List.append_nil]
    rw [if_neg (by omega)]
  | succ d ih =>
    intro out hd hl
    have hm : (((d + 1 : Nat) : Int) - 1) % 256 = d := by omega
    have hw : wrap64 (((d + 1 : Nat) : Int) - 1 - 1) = (d : Int) - 1 := by unfold wrap64; omega
    have := ih (out ++ [(d : Int)]) (by omega) (by simp; omega)
    simp only [downN, List.map_cons]
    rw [List.append_assoc, List.singleton_append] at this
    refine Ev.step (fun k => ?_) this
    simp only [rejoinderlaw02_every.l0]
    rw [if_pos (by omega), if_pos (by omega), hm, hw]
theorem pevery {N : Nat} (hN : N ≤ 8) : Ev (fun k => rejoinderlaw02_every.f k N) ((downN (2 ^ N)).map (fun x : Nat => (x : Int))) := by
  have h256 : 2 ^ N ≤ 256 := Nat.pow_le_pow_right (n := 2) (i := N) (j := 8) (by decide) hN
  have hpos := Nat.two_pow_pos N
  refine Ev.congr (fun k => ?_) (every_loop (2 ^ N) [] h256 (by simpa using h256))
  unfold rejoinderlaw02_every.f
  rw [if_pos (by omega), shl_i64 N hN]
  have hw : wrap64 (((2 ^ N : Nat) : Int) - 1) = ((2 ^ N : Nat) : Int) - 1 := by
    generalize 2 ^ N = m at *
    unfold wrap64; omega
  rw [hw]
theorem ppick (a : Int) (_h : (Lit.int .i64 a).wf = true) : ∃ N : Nat, N ≤ 8 ∧ rejoinderkit_Pick.f a 9 = some (N : Int) := by
  unfold rejoinderkit_Pick.f
  rw [if_neg (by decide), if_neg (by decide)]
  have h1 : -9 < Int.tmod a 9 := Int.lt_tmod_of_pos a (by decide)
  have h2 : Int.tmod a 9 < 9 := Int.tmod_lt_of_pos a (by decide)
  by_cases h : Int.tmod a 9 < 0
  · rw [if_pos h]
    refine ⟨(Int.tmod a 9 + 9).toNat, by omega, ?_⟩
    have : wrap64 (Int.tmod a 9 + 9) = Int.tmod a 9 + 9 := by unfold wrap64; omega
    rw [this]; congr 1; omega
  · rw [if_neg h]
    exact ⟨(Int.tmod a 9).toNat, by omega, by congr 1; omega⟩
theorem setL_down (N : Nat) (hN : N ≤ 8) : coverN (setL (downN (2 ^ N))) (2 ^ N) N 0 0 0 = [(0, 0)] := by
  have h256 : 2 ^ N ≤ 256 := Nat.pow_le_pow_right (n := 2) (i := N) (j := 8) (by decide) hN
  refine cover_whole N _ fun l hl => ?_
  rw [setL_mem _ _ (by omega)]
  simpa using (down_mem _ _).2 hl
end Go.Proofs.Ytpnocpfagbfboaa.PCube
