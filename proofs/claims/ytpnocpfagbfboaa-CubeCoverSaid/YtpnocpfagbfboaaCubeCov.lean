/- The program's cover: its call, at a cube whose propositions below p are said, tells the cubes that the plain function coverN tells. Conditions: at most 8 propositions, an array of 256 bools. -/
import Derived.Test.YtpnocpfagbfboaaPCubex2
import Derived.Test.YtpnocpfagbfboaaCubeMore
namespace Go.Proofs.Ytpnocpfagbfboaa.PCube
open Go.RowKit Go.Proofs.YtpnocpfagbfboaaW.PrintWords Go.Proofs.YtpnocpfagbfboaaW.PrintLast Go.Proofs.YtpnocpfagbfboaaW.PrintMore Go.Proofs.Ytpnocpfagbfboaa.CubeNat
/-- Is some letter below n that the cube has in the set; are all? -/
def someN (il : List Bool) (c v : Nat) : Nat → Bool
  | 0 => false
  | n + 1 => if HasB c v n = true then someN il c v n || il.getD n false else someN il c v n
def everyN (il : List Bool) (c v : Nat) : Nat → Bool
  | 0 => true
  | n + 1 => if HasB c v n = true then everyN il c v n && il.getD n false else everyN il c v n
theorem someN_iff (il : List Bool) (c v : Nat) (n : Nat) : someN il c v n = true ↔ ∃ l, l < n ∧ HasB c v l = true ∧ il.getD l false = true := by
  induction n with
  | zero => simp [someN]
  | succ n ih =>
    unfold someN
    by_cases h : HasB c v n = true
    · rw [if_pos h, Bool.or_eq_true, ih]
      constructor
      · rintro (⟨l, h1, h2⟩ | h1)
        · exact ⟨l, by omega, h2⟩
        · exact ⟨n, by omega, h, h1⟩
      · rintro ⟨l, h1, h2, h3⟩
        by_cases e : l = n
        · subst e; exact .inr h3
        · exact .inl ⟨l, by omega, h2, h3⟩
    · rw [if_neg h, ih]
      constructor
      · rintro ⟨l, h1, h2⟩; exact ⟨l, by omega, h2⟩
      · rintro ⟨l, h1, h2, h3⟩
        by_cases e : l = n
        · subst e; exact absurd h2 h
        · exact ⟨l, by omega, h2, h3⟩
theorem everyN_iff (il : List Bool) (c v : Nat) (n : Nat) : everyN il c v n = true ↔ ∀ l, l < n → HasB c v l = true → il.getD l false = true := by
  induction n with
  | zero => simp [everyN]
  | succ n ih =>
    unfold everyN
    by_cases h : HasB c v n = true
    · rw [if_pos h, Bool.and_eq_true, ih]
      constructor
      · rintro ⟨h1, h2⟩ l hl hh
        by_cases e : l = n
        · subst e; exact h2
        · exact h1 l (by omega) hh
      · intro h1
        exact ⟨fun l hl hh => h1 l (by omega) hh, h1 n (by omega) h⟩
    · rw [if_neg h, ih]
      constructor
      · intro h1 l hl hh
        by_cases e : l = n
        · subst e; exact absurd hh h
        · exact h1 l (by omega) hh
      · intro h1 l hl hh; exact h1 l (by omega) hh
/-- Where all propositions are said, the cube has one letter. -/
theorem last_one {N v : Nat} (_hN : N ≤ 8) (hv : v < 2 ^ N) (il : List Bool) (h : someN il (2 ^ N - 1) v (2 ^ N) = true) : everyN il (2 ^ N - 1) v (2 ^ N) = true := by
  have one : ∀ l, l < 2 ^ N → HasB (2 ^ N - 1) v l = true → l = v := by
    intro l hl hh
    obtain ⟨_, h2⟩ := (HasB_iff _ _ _).1 hh
    apply Nat.eq_of_testBit_eq
    intro p
    by_cases hp : p < N
    · exact (h2 p (by omega) (by rw [Nat.testBit_two_pow_sub_one]; simp [hp])).symm
    · rw [Nat.testBit_lt_two_pow (Nat.lt_of_lt_of_le hl (Nat.pow_le_pow_right (by decide) (by omega))), Nat.testBit_lt_two_pow (Nat.lt_of_lt_of_le hv (Nat.pow_le_pow_right (by decide) (by omega)))]
  obtain ⟨l, h1, h2, h3⟩ := (someN_iff _ _ _ _).1 h
  rw [everyN_iff]
  intro l' h4 h5
  rw [one l' h4 h5, ← one l h1 h2, h3]
/-- The cubes of a cube's letters in the set: d propositions from p on are still free. -/
def coverN (il : List Bool) (M : Nat) : Nat → Nat → Nat → Nat → List (Nat × Nat)
  | 0, _, c, v => if someN il c v M = true then (if everyN il c v M = true then [(c, v)] else []) else []
  | d + 1, p, c, v => if someN il c v M = true then (if everyN il c v M = true then [(c, v)] else coverN il M d (p + 1) (c ||| 2 ^ p) v ++ coverN il M d (p + 1) (c ||| 2 ^ p) (v ||| 2 ^ p)) else []
theorem cover_none {il : List Bool} {M d p c v : Nat} (h : someN il c v M = false) : coverN il M d p c v = [] := by cases d <;> simp [coverN, h]
theorem cover_all {il : List Bool} {M d p c v : Nat} (h : someN il c v M = true) (k : everyN il c v M = true) : coverN il M d p c v = [(c, v)] := by cases d <;> simp [coverN, h, k]
theorem cover_len (il : List Bool) (M : Nat) (d : Nat) : ∀ p c v, (coverN il M d p c v).length ≤ 2 ^ d := by
  induction d with
  | zero => intro p c v; unfold coverN; split <;> (try split) <;> simp
  | succ d ih =>
    intro p c v
    unfold coverN
    have h2 := Nat.two_pow_pos d
    split
    · split
      · simp only [List.length_cons, List.length_nil]; rw [Nat.pow_succ]; omega
      · rw [List.length_append, Nat.pow_succ]
        have h0 := ih (p + 1) (c ||| 2 ^ p) v
        have h1 := ih (p + 1) (c ||| 2 ^ p) (v ||| 2 ^ p)
        omega
    · simp
def toS (s : Nat × Nat) : S24 := ⟨s.1, s.2⟩
theorem pmay (c v : Nat) (hc : c < 256) (hv : v < 256) : cube_may.f c v = some (mayB c v 0 8) := by
  unfold cube_may.f
  rw [u8_andNot_nat v c hv hc, cast_zero]
  congr 1
  rw [Bool.eq_iff_iff, decide_eq_true_iff, mayB_may]
  exact may_iff hc hv
theorem phas (c v l : Nat) (hc : c < 256) (hv : v < 256) (hl : l < 256) : cube_Has.f c v l = some (HasB c v l) := by
  unfold cube_Has.f
  rw [pmay c v hc hv]
  simp only [Option.bind_some]
  unfold HasB
  rcases Bool.eq_false_or_eq_true (mayB c v 0 8) with h | h
  · rw [if_pos h, u8_and_nat l c hl hc, h, Bool.true_and]
    congr 1
    rw [Bool.eq_iff_iff, beq_iff_eq, hasB_iff]
    have := has_iff (l := l) hc hv ((mayB_may c v).1 h)
    constructor
    · intro e p _ hp; exact this.1 (by exact_mod_cast e) p (by omega)
    · intro e; exact_mod_cast this.2 (fun p hp => e p (Nat.zero_le _) (by omega))
  · rw [if_neg (by simp [h]), h, Bool.false_and]
/-- What a call of cover is promised. -/
def Covers (il : List Bool) (M d p c v : Nat) (w : World) (e : Ending) (w' : World) : Prop :=
  ∃ v0_ : Value, e = .returned v0_ ∧ Kd.R k24 24 w' w.heap.size (fun _ => True) v0_ ((coverN il M d p c v).map toS) ∧ Below w.heap.size w w'
theorem getD_rd (il : List Bool) (n : Nat) : rdOf false il (n : Int) = il.getD n false := by unfold rdOf; rw [Int.toNat_natCast]
set_option maxHeartbeats 4000000 in
theorem cover_step (N : Nat) (hN : N ≤ 8) (il : List Bool) (hil : il.length = 256) (ad : Addr) (d : Nat)
    (ih : ∀ d', d = d' + 1 → ∀ (p v : Nat) (w : World), p + d' = N → v < 2 ^ p → Kd.C Kd.bool w (some ad) 256 il →
      Calls Try.prog 44 #[.int .i64 N, .int .i64 p, .agg #[.int .u8 ((2 ^ p - 1 : Nat) : Int), .int .u8 v], .pointer (some ad)] w (Covers il (2 ^ N) d' p (2 ^ p - 1) v w)) :
    ∀ (p v : Nat) (w : World), p + d = N → v < 2 ^ p → Kd.C Kd.bool w (some ad) 256 il →
    Calls Try.prog 44 #[.int .i64 N, .int .i64 p, .agg #[.int .u8 ((2 ^ p - 1 : Nat) : Int), .int .u8 v], .pointer (some ad)] w (Covers il (2 ^ N) d p (2 ^ p - 1) v w) := by
  intro p v w hpd hv0 HI
  have hp8 : p ≤ 8 := by omega
  have hpow : 2 ^ p ≤ 256 := Nat.pow_le_pow_right (n := 2) (i := p) (j := 8) (by decide) hp8
  have hpos := Nat.two_pow_pos p
  obtain ⟨c, hc0⟩ : ∃ c, c = 2 ^ p - 1 := ⟨_, rfl⟩
  rw [← hc0]
  have hc : c < 256 := by omega
  have hv : v < 256 := by omega
  have HC := Aside0.mk hc0
  have HV := Aside0.mk hv0
  have HP := Aside0.mk hpd
  clear hc0 hv0 hpd
  obtain ⟨M, hM⟩ : ∃ M : Nat, M = 2 ^ N := ⟨_, rfl⟩
  have hM8 : M ≤ 256 := by rw [hM]; exact Nat.pow_le_pow_right (n := 2) (i := N) (j := 8) (by decide) hN
  have eM : wrap64 ((2 : Int) ^ N) = (M : Int) := by
    have : ((2 : Int) ^ N) = ((2 ^ N : Nat) : Int) := by simp
    rw [this, ← hM]; unfold wrap64; omega
  rw [← hM] at ih ⊢
  have IH := Aside0.mk ih
  have HM := Aside0.mk hM
  have HL := Aside0.mk hil
  have HA := Aside0.mk HI
  clear hM hil HI ih hpow hpos
  have hu24 := Try.underlying24
  go_enter Try.func44, Try.ntmps44
  go_wp2
  rw [eM]
  clear eM
  go_loopw [9, 10, 16] (fun s e i w' => ∃ n : Nat, n ≤ M ∧ i = .int .i64 n ∧ s = .bool (someN il c v n) ∧ e = .bool (everyN il c v n) ∧ Aside0 (w'.heap[w.heap.size]? = some (.cells #[.int .u8 c, .int .u8 v] 24 (0, 0))) ∧ Aside0 (Below w.heap.size w w')) (fun _ _ i _ => M - (intOf i).toNat)
  case atStart => exact ⟨0, Nat.zero_le _, rfl, rfl, rfl, ⟨blk_new _ _⟩, ⟨below_alloc (Below.refl _ _) _⟩⟩
  case round =>
    obtain ⟨n, hn, rfl, rfl, rfl, BK, HB⟩ := hrel
    have hcz0 : wr.cell? ⟨w.heap.size, 0, none⟩ = some (.int .u8 c) := (blk_cell BK.out 0).trans rfl
    have hcz1 : wr.cell? ⟨w.heap.size, 1, none⟩ = some (.int .u8 v) := (blk_cell BK.out 1).trans rfl
    by_cases hlt : n < M
    · have hn8 : (n : Int) % 256 = n := by omega
      have hrd := HA.out
      obtain ⟨ad', e1, hx⟩ := Kd.at_bool hrd (n : Int) (by omega) (by omega)
      obtain rfl := Option.some.inj e1
      rw [Int.toNat_natCast, getD_rd] at hx
      clear e1 hrd
      have hn256 : (n : Int) < 256 := by omega
      have hz : (0 : Int) ≤ n := by omega
      have Hs1 : Aside0 (someN il c v (n + 1) = if HasB c v n = true then someN il c v n || il.getD n false else someN il c v n) := ⟨rfl⟩
      have He1 : Aside0 (everyN il c v (n + 1) = if HasB c v n = true then everyN il c v n && il.getD n false else everyN il c v n) := ⟨rfl⟩
      have Hf := Aside0.mk (phas c v n hc hv (by omega))
      generalize someN il c v n = s at Hs1 ⊢
      generalize everyN il c v n = e at He1 ⊢
      generalize il.getD n false = b at hx Hs1 He1
      generalize HasB c v n = h at Hs1 He1 Hf
      have Hx := Aside0.mk hx
      clear hx
      cases h
      case false =>
        go_wp2_with (go_at_call 13; refine (cube_Has.calls c v n false _ Hf.out).mono ?_; rintro e w1 ⟨rfl, hb⟩)
        go_roundw
        case rel => exact ⟨n + 1, by omega, by go_num, by rw [Hs1.out, if_neg (by simp)], by rw [He1.out, if_neg (by simp)], ⟨blk_below BK.out hb⟩, ⟨below_step HB.out hb⟩⟩
        case measure => simp [intOf]; omega
      case true =>
      cases s <;> cases e
      all_goals
        go_wp2_with (go_at_call 13; refine (cube_Has.calls c v n true _ Hf.out).mono ?_; rintro e w1 ⟨rfl, hb⟩)
        have hx1 := pw_cell_below (below_step HB.out hb) Hx.out
        go_quiet (fail)
        go_wp2
        go_roundw
        case rel => exact ⟨n + 1, by omega, by go_num, by rw [Hs1.out]; simp, by rw [He1.out]; simp, ⟨blk_drewN (blk_below BK.out hb) _⟩, ⟨pw_below_drewN (below_step HB.out hb) _⟩⟩
        case measure => simp [intOf]; omega
    · obtain rfl : n = M := by omega
      obtain ⟨s, hs⟩ : ∃ s, s = someN il c v n := ⟨_, rfl⟩
      obtain ⟨e, he⟩ : ∃ s, s = everyN il c v n := ⟨_, rfl⟩
      rw [← hs, ← he]
      have Hs := Aside0.mk hs
      have He := Aside0.mk he
      clear hs he hlt hn
      cases s
      case false =>
        go_wp2
        go_ret
        refine ⟨_, rfl, ?_, HB.out⟩
        rw [cover_none Hs.out.symm]
        exact Kd.R_nil _ _ _ _ _
      case true =>
      cases e
      case true =>
        have hpost : coverN il n d p c v = [(c, v)] := cover_all Hs.out.symm He.out.symm
        have HPo := Aside0.mk hpost
        clear hpost
        go_wp2_with ((with_reducible refine gate_dst (N := 46) rfl ?_); refine Kd.R_lit k24 _ 24 ?hg (N := 46) ?hd (xs := ([(⟨c, v⟩ : S24)] : List (S24))) (inner := [.int .u8 c, .int .u8 v]) (ok := fun _ => True) (okp := fun _ => True) ?hr ?hp (fun _ hk => hk) trivial (Below.refl _ _) (Nat.le_refl _) (by simp) ?_; (case hd => rfl); (case hg => rfl); (case hr => first | (go_simp; done) | (go_simp; rfl)); (case hp => exact (Reps.c2 (show Kd.M k24 _ _ _ (⟨c, v⟩ : S24) [.int .u8 c, .int .u8 v] from (k24_mkM _ _ _ (⟨c, v⟩ : S24) )) (Reps.none _ _))); intro v1 w2 ho hb hg_ hnew_)
        go_ret
        refine ⟨_, rfl, ?_, below_step HB.out hb⟩
        rw [HPo.out]
        exact Kd.R_lower ho HB.out.size
      case false =>
        cases d with
        | zero =>
          exfalso
          have hpN : p = N := by have := HP.out; omega
          have h1 := Hs.out
          have h2 := He.out
          rw [HM.out, HC.out, hpN] at h1 h2
          rw [last_one hN (by rw [← hpN]; exact HV.out) il h1.symm] at h2
          cases h2
        | succ d =>
        have IH := Aside0.mk (IH.out d rfl)
        have hp7 : p < 8 := by have := HP.out; omega
        have h1 : 2 ^ (p + 1) - 1 = c ||| 2 ^ p := by
          refine ext8 (by have := Nat.pow_le_pow_right (n := 2) (i := p + 1) (j := 8) (by decide) (by omega); omega) (or_lt hc (pow_lt8 hp7)) fun q hq => ?_
          rw [HC.out, Nat.testBit_or, Nat.testBit_two_pow_sub_one, Nat.testBit_two_pow_sub_one, tb_pow, Bool.eq_iff_iff, Bool.or_eq_true, decide_eq_true_iff, decide_eq_true_iff, decide_eq_true_iff]
          omega
        have hb0 : (2 ^ p : Nat) < 256 := pow_lt8 hp7
        obtain ⟨B, hB⟩ : ∃ B : Nat, B = 2 ^ p := ⟨_, rfl⟩
        have eB : ((2 : Int) ^ p) % 256 = (B : Int) := by
          have : ((2 : Int) ^ p) = ((2 ^ p : Nat) : Int) := by simp
          rw [this, ← hB]; omega
        have e2 : bits .or .u8 (c : Int) (B : Int) = ((c ||| B : Nat) : Int) := u8_or_nat c B hc (by omega)
        have e3 : bits .or .u8 (v : Int) (B : Int) = ((v ||| B : Nat) : Int) := u8_or_nat v B hv (by omega)
        rw [← hB] at h1 hb0
        have hvB : v ||| B < 2 ^ (p + 1) := by
          rw [hB]; exact Nat.or_lt_two_pow (Nat.lt_of_lt_of_le HV.out (Nat.pow_le_pow_right (by decide) (by omega))) (Nat.pow_lt_pow_right (by decide) (by omega))
        have hv2 : v < 2 ^ (p + 1) := Nat.lt_of_lt_of_le HV.out (Nat.pow_le_pow_right (by decide) (by omega))
        have C0 := fun (W : World) => IH.out (p + 1) v W (by have := HP.out; omega) hv2
        have C1 := fun (W : World) => IH.out (p + 1) (v ||| B) W (by have := HP.out; omega) hvB
        have hpc : ((p + 1 : Nat) : Int) = (p : Int) + 1 := by omega
        rw [h1, hpc] at C0 C1
        have HC0 := Aside0.mk C0
        have HC1 := Aside0.mk C1
        have hpost : coverN il n (d + 1) p c v = coverN il n d (p + 1) (c ||| B) v ++ coverN il n d (p + 1) (c ||| B) (v ||| B) := by
          rw [hB]; simp only [coverN]; rw [if_pos Hs.out.symm, if_neg (by rw [← He.out]; simp)]
        have HPo := Aside0.mk hpost
        have HB0 := Aside0.mk hB
        clear hpost h1 hb0 hvB hv2 C0 C1 hpc hB
        go_wp2_with fail
        refine (HC0.out _ (Kd.C_below HA.out HB.out)).mono ?_
        rintro e w1 ⟨v1, rfl, hr1, hb1⟩
        have BK1 := Aside0.mk (blk_below BK.out hb1)
        have HB1 := Aside0.mk (below_step HB.out hb1)
        have HR1 := Aside0.mk hr1
        clear hr1 hcz0 hcz1
        have hcz0 : w1.cell? ⟨w.heap.size, 0, none⟩ = some (.int .u8 c) := (blk_cell BK1.out 0).trans rfl
        have hcz1 : w1.cell? ⟨w.heap.size, 1, none⟩ = some (.int .u8 v) := (blk_cell BK1.out 1).trans rfl
        go_wp2_with fail
        refine (HC1.out _ (Kd.C_below HA.out HB1.out)).mono ?_
        rintro e w2 ⟨v2, rfl, hr2, hb2⟩
        obtain ⟨L1, hL1⟩ : ∃ L, L = (coverN il n d (p + 1) (c ||| B) v).map toS := ⟨_, rfl⟩
        obtain ⟨L2, hL2⟩ : ∃ L, L = (coverN il n d (p + 1) (c ||| B) (v ||| B)).map toS := ⟨_, rfl⟩
        rw [← hL2] at hr2
        have hr1 := HR1.out
        rw [← hL1] at hr1
        obtain ⟨A2, c2, rfl, _, hc2⟩ := Kd.R_reads hr2
        have hl1 := cover_len il n d (p + 1) (c ||| B) v
        have hl2 := cover_len il n d (p + 1) (c ||| B) (v ||| B)
        have hd8 : 2 ^ d ≤ 256 := Nat.pow_le_pow_right (n := 2) (i := d) (j := 8) (by decide) (by have := HP.out; omega)
        have HR2 := Aside0.mk (Kd.R_below hr1 hb2)
        have HB2 := Aside0.mk (below_step HB1.out hb2)
        have HC2 := Aside0.mk hc2
        have hn1 : L1.length = (coverN il n d (p + 1) (c ||| B) v).length := by rw [hL1, List.length_map]
        have hn2 : L2.length = (coverN il n d (p + 1) (c ||| B) (v ||| B)).length := by rw [hL2, List.length_map]
        rw [← hn1] at hl1
        rw [← hn2] at hl2
        have HLL := Aside0.mk (And.intro hl1 (And.intro hl2 hd8))
        have HPP : Aside0 (L1 ++ L2 = (coverN il n (d + 1) p c v).map toS) := ⟨by rw [HPo.out, List.map_append, hL1, hL2]⟩
        clear hl1 hl2 hd8 hc2 hr2 hr1 HR1 hcz0 hcz1 hn1 hn2 hL1 hL2
        go_wp2_with ((with_reducible refine gate_builtin (b := .append) (xs := #[.tmp 61, .tmp 75]) rfl ?_); at_builtin; refine Kd.R_append_rows k24 (w0 := w) w.heap.size rfl (.tmp 61) (.tmp 75) 33 24 (.agg #[(.int .u8 0), (.int .u8 0)]) 2 rfl Try.underlying33 info24 rfl (by decide) (by omega) v1 L1 L2 _ _ _ (fun _ => True) (fun _ => False) rfl rfl ?aO ?aR (fun _ _ h => h) (fun _ h => h.elim) ?aF ?aB ?aS ?aL ?_; (case aR => exact HC2.out); (case aB => exact HB2.out); (case aF => exact (fun _ _ => trivial)); (case aO => exact Kd.R_lower HR2.out HB.out.size); (case aS => exact HB2.out.size); (case aL => have := HLL.out; omega); intro v3 w3 ho hb hg hat; have HO := Aside0.mk ho; have HB3 := Aside0.mk hb; clear ho hb hg hat)
        go_ret
        refine ⟨_, rfl, ?_, HB3.out⟩
        rw [← HPP.out]
        exact HO.out
theorem cover_calls (N : Nat) (hN : N ≤ 8) (il : List Bool) (hil : il.length = 256) (ad : Addr) (d : Nat) : ∀ (p v : Nat) (w : World), p + d = N → v < 2 ^ p → Kd.C Kd.bool w (some ad) 256 il →
    Calls Try.prog 44 #[.int .i64 N, .int .i64 p, .agg #[.int .u8 ((2 ^ p - 1 : Nat) : Int), .int .u8 v], .pointer (some ad)] w (Covers il (2 ^ N) d p (2 ^ p - 1) v w) := by
  induction d with
  | zero => exact cover_step N hN il hil ad 0 (fun d' h => by omega)
  | succ d ih => exact cover_step N hN il hil ad (d + 1) (fun d' h => by
    obtain rfl : d' = d := by omega
    exact ih)
/-! ### Cover -/
/-- The set of some letters, as 256 bools. -/
def setL (l : List Nat) : List Bool := l.foldl (fun il x => il.set x true) (List.replicate 256 false)
theorem setL_len (l : List Nat) : (setL l).length = 256 := by
  unfold setL
  have : ∀ (l : List Nat) (il : List Bool), (l.foldl (fun il x => il.set x true) il).length = il.length := by
    intro l
    induction l with
    | nil => intro il; rfl
    | cons x l ih => intro il; rw [List.foldl_cons, ih, List.length_set]
  rw [this, List.length_replicate]
theorem setL_snoc (l : List Nat) (x : Nat) : setL (l ++ [x]) = (setL l).set x true := by unfold setL; rw [List.foldl_append]; rfl
theorem setL_mem (l : List Nat) (i : Nat) (hi : i < 256) : (setL l).getD i false = decide (i ∈ l) := by
  have gen : ∀ (l : List Nat) (il : List Bool), il.length = 256 → (l.foldl (fun il x => il.set x true) il).getD i false = (il.getD i false || decide (i ∈ l)) := by
    intro l
    induction l with
    | nil => intro il _; simp
    | cons x l ih =>
      intro il hl
      rw [List.foldl_cons, ih _ (by rw [List.length_set]; exact hl), List.getD_eq_getElem?_getD, List.getElem?_set, hl]
      by_cases e : x = i
      · subst e; simp [hi]
      · rw [if_neg e, ← List.getD_eq_getElem?_getD]
        simp [Ne.symm e]
  unfold setL
  rw [gen l _ (List.length_replicate ..), List.getD_eq_getElem?_getD, List.getElem?_replicate, if_pos hi]
  simp
def boolsV (il : List Bool) : Array Value := (il.map Value.bool).toArray
theorem boolsV_set (il : List Bool) (x : Nat) (b : Bool) : (boolsV il).setIfInBounds x (.bool b) = boolsV (il.set x b) := by
  unfold boolsV
  rw [List.setIfInBounds_toArray, List.map_set]
theorem boolsV_at (il : List Bool) (x : Nat) (h : x < il.length) : (boolsV il)[x]? = some (.bool (il.getD x false)) := by
  unfold boolsV
  simp [h, List.getD_eq_getElem?_getD]
def zerosV : Array Value := Array.replicate 256 (.bool false)
theorem zerosV_eq : zerosV = boolsV (setL []) := by
  unfold zerosV boolsV setL
  rw [List.foldl_nil, List.map_replicate, List.toArray_replicate]
theorem zero_arr (W : World) : (zeroValue 76).run Try.prog W = .ok (.agg zerosV) W := by kernel_rfl
theorem arr_read {w : World} {g : Nat} {il : List Bool} (hl : il.length = 256) (h : w.heap[g]? = some (.cells (boolsV il) 76 (0, 0))) : Kd.C Kd.bool w (some ⟨g, 0, none⟩) 256 il := by
  refine Kd.C_of_reads (d := false) ?_
  refine ⟨hl, by decide, fun _ => ⟨_, rfl, fun j hj => ?_⟩⟩
  rw [add_plain, blk_cell h, boolsV_at il j (by omega)]
/-- A number that is no count of propositions. -/
theorem cover_arg (a : Int) (hb : ¬ (0 ≤ a ∧ a ≤ 8)) (A : Option Addr) (cp : Nat) (l : List Int) (w : World) :
    Calls Try.prog 28 #[.int .i64 a, .slice A l.length cp] w fun e w' => ∃ v0_ : Value, e = .returned (.tuple #[v0_, .int .i64 2]) ∧ Kd.R k24 24 w' w.heap.size (fun _ => True) v0_ [] ∧ Below w.heap.size w w' := by
  have hf : cube_bound.f a = some false := by
    unfold cube_bound.f
    by_cases h : a ≥ 0
    · rw [if_pos h, decide_eq_false (fun h8 => hb ⟨h, h8⟩)]
    · rw [if_neg h]
  have HF := Aside0.mk hf
  clear hf hb
  go_enter Try.func28, Try.ntmps28
  go_wp2_with (go_at_call 35; refine (cube_bound.calls a false _ HF.out).mono ?_; rintro e w1 ⟨rfl, hd⟩; have HD := Aside0.mk hd.below; clear hd)
  go_ret2
  exact ⟨_, rfl, Kd.R_nil _ _ _ _ _, HD.out⟩
def AllIn (N : Nat) (l : List Int) : Prop := ∀ x ∈ l, 0 ≤ x ∧ x < 2 ^ N
theorem mask_in {N : Nat} (hN : N ≤ 8) {x : Nat} (hx : x < 256) : (x &&& (255 - (2 ^ N - 1)) = 0) ↔ x < 2 ^ N := by
  rw [out_iff hx hN, ← Bool.not_eq_true, outB_iff]
  constructor
  · intro h
    apply Nat.lt_pow_two_of_testBit
    intro p hp
    cases hb : x.testBit p with
    | false => rfl
    | true =>
      by_cases h8 : p < 8
      · exact absurd ⟨p, hp, by omega, hb⟩ h
      · rw [tb_hi hx (by omega)] at hb; cases hb
  · rintro h ⟨p, h1, h2, h3⟩
    rw [Nat.testBit_lt_two_pow (Nat.lt_of_lt_of_le h (Nat.pow_le_pow_right (by decide) h1))] at h3
    cases h3
theorem pall (n : Nat) (h : n ≤ 8) : cube_all.f n = some (((2 ^ n - 1 : Nat) : Int)) := by
  have : n = 0 ∨ n = 1 ∨ n = 2 ∨ n = 3 ∨ n = 4 ∨ n = 5 ∨ n = 6 ∨ n = 7 ∨ n = 8 := by omega
  rcases this with rfl | rfl | rfl | rfl | rfl | rfl | rfl | rfl | rfl <;> decide +kernel
theorem bound_ok {N : Nat} (hN : N ≤ 8) : cube_bound.f (N : Int) = some true := by unfold cube_bound.f; rw [if_pos (by omega), decide_eq_true (by omega)]
theorem take_next (l : List Nat) (n : Nat) (h : n < l.length) : l.take (n + 1) = l.take n ++ [l.getD n 0] := by
  rw [List.take_succ_eq_append_getElem h, List.getD_eq_getElem?_getD, List.getElem?_eq_getElem h]; rfl
/-- What Cover tells of letters that are bytes. -/
def CoverOk (N : Nat) (ls : List Nat) (w : World) (e : Ending) (w' : World) : Prop :=
  ∃ v0_ : Value, if ls.all (fun x => decide (x < 2 ^ N)) = true then e = .returned (.tuple #[v0_, .int .i64 0]) ∧ Kd.R k24 24 w' w.heap.size (fun _ => True) v0_ ((coverN (setL ls) (2 ^ N) N 0 0 0).map toS) ∧ Below w.heap.size w w'
    else e = .returned (.tuple #[v0_, .int .i64 2]) ∧ Kd.R k24 24 w' w.heap.size (fun _ => True) v0_ [] ∧ Below w.heap.size w w'
set_option maxHeartbeats 4000000 in
theorem cover_go (N : Nat) (hN : N ≤ 8) (A : Option Addr) (cp : Nat) (ls : List Nat) (hls : ∀ x ∈ ls, x < 256) (w : World) (hr1 : Kd.C (Kd.int .u8) w A ls.length (ls.map fun x : Nat => (x : Int))) (hcp : ls.length ≤ cp) :
    Calls Try.prog 28 #[.int .i64 N, .slice A ls.length cp] w (CoverOk N ls w) := by
  obtain ⟨m, hm⟩ : ∃ m, m = ls.length := ⟨_, rfl⟩
  have hm64 : m ≤ 9223372036854775807 := by have := hr1.2.1; omega
  rw [← hm]
  rw [← hm] at hr1 hcp
  have HM := Aside0.mk hm
  have HR := Aside0.mk hr1
  have HLS := Aside0.mk hls
  have HBO := Aside0.mk (bound_ok hN)
  have HAL := Aside0.mk (pall N hN)
  have hza := zero_arr
  clear hm hr1 hls
  go_enter Try.func28, Try.ntmps28
  go_wp2_with (go_at_call 35; refine (cube_bound.calls N true _ HBO.out).mono ?_; rintro e w1 ⟨rfl, hd⟩; have HD := Aside0.mk hd.below; clear hd)
  obtain ⟨g, hg⟩ : ∃ g, g = w1.heap.size := ⟨_, rfl⟩
  have HG : Aside0 (w.heap.size ≤ g) := ⟨by rw [hg]; exact HD.out.size⟩
  have BK0 : Aside0 ((w1.alloc (Obj.cells zerosV 76)).heap[g]? = some (.cells (boolsV (setL (ls.take 0))) 76 (0, 0))) := ⟨by rw [hg, List.take_zero, ← zerosV_eq]; exact blk_new _ _⟩
  have HB0 := Aside0.mk (below_alloc HD.out (Obj.cells zerosV 76))
  rw [← hg]
  clear hg hza
  go_loopw [14] (fun i w' => ∃ n : Nat, n ≤ m ∧ i = .int .i64 n ∧ Aside0 ((ls.take n).all (fun x => decide (x < 2 ^ N)) = true) ∧ Aside0 (w'.heap[g]? = some (.cells (boolsV (setL (ls.take n))) 76 (0, 0))) ∧ Aside0 (Below w.heap.size w w')) (fun i _ => m - (intOf i).toNat)
  case atStart => exact ⟨0, Nat.zero_le _, rfl, ⟨rfl⟩, BK0, HB0⟩
  case round =>
    obtain ⟨n, hn, rfl, HAll, BK, HB⟩ := hrel
    clear BK0 HB0
    by_cases hlt : n < m
    · have hlt2 : n < ls.length := by rw [← HM.out]; exact hlt
      obtain ⟨x, hx⟩ : ∃ x, x = ls.getD n 0 := ⟨_, rfl⟩
      have hx256 : x < 256 := by
        rw [hx, List.getD_eq_getElem?_getD, List.getElem?_eq_getElem hlt2]
        exact HLS.out _ (List.getElem_mem hlt2)
      have htk := take_next ls n hlt2
      rw [← hx] at htk
      have hr2 := HR.out
      obtain ⟨ad, rfl, hc⟩ := Kd.at_int hr2 (n : Int) (by omega) (by omega)
      have hrd : rd (ls.map fun x : Nat => (x : Int)) (n : Int) = (x : Int) := by
        unfold rd
        rw [Int.toNat_natCast, hx]
        simp [List.getD_eq_getElem?_getD, List.getElem?_map, List.getElem?_eq_getElem hlt2]
      rw [hrd, Int.toNat_natCast] at hc
      have hc2 := pw_cell_below HB.out hc
      have HT := Aside0.mk htk
      obtain ⟨K, hK⟩ : ∃ K, K = 2 ^ N - 1 := ⟨_, rfl⟩
      have hK256 : K < 256 := by rw [hK]; exact mask_lt hN
      have HA2 := HAL.out
      rw [← hK] at HA2
      have HA3 := Aside0.mk HA2
      have e1 : bits .andNot .u8 (x : Int) (K : Int) = ((x &&& (255 - K) : Nat) : Int) := u8_andNot_nat x K hx256 hK256
      have hin := mask_in hN hx256
      rw [← hK] at hin
      generalize x &&& (255 - K) = y at e1 hin
      have HIN := Aside0.mk hin
      clear hin hx hrd hr2 hlt2 htk HA2 hK hc
      by_cases hz : y = 0
      · subst hz
        have HIX := Aside0.mk (HIN.out.1 rfl)
        have hcell : wr.cell? ⟨g, x, none⟩ = some (.bool ((setL (ls.take n)).getD x false)) := by
          rw [blk_cell BK.out, boolsV_at _ _ (by rw [setL_len]; exact hx256)]
        have hfz := blk_frozen BK.out x
        go_wp2_with (go_at_call 38; refine (cube_all.calls N K _ HA3.out).mono ?_; rintro e w2 ⟨rfl, ⟨q, rfl⟩⟩)
        go_roundw
        case rel =>
          refine ⟨n + 1, by omega, by go_num, ⟨?_⟩, ⟨?_⟩, ⟨?_⟩⟩
          · rw [HT.out, List.all_append, HAll.out]
            simp [HIX.out]
          · rw [HT.out, setL_snoc, ← boolsV_set]
            exact blk_put (blk_drewN BK.out _) x _ rfl
          · exact below_set (pw_below_drewN HB.out _) HG.out
        case measure => simp [intOf]; omega
      · have hz1 : ((y : Int) != 0) = true := by rw [bne_iff_ne]; omega
        have hz2 : ((y : Int) == 0) = false := by rw [beq_eq_false_iff_ne]; omega
        have hno : ¬ x < 2 ^ N := fun h => hz (HIN.out.2 h)
        have hall : ¬ ls.all (fun x => decide (x < 2 ^ N)) = true := by
          intro h
          have h2 : (ls.take (n + 1)).all (fun x => decide (x < 2 ^ N)) = true := by
            rw [List.all_eq_true] at h ⊢
            exact fun z hz => h z (List.mem_of_mem_take hz)
          rw [HT.out, List.all_append, Bool.and_eq_true] at h2
          simp [hno] at h2
        have HN := Aside0.mk hall
        clear hall hno
        go_wp2_with (go_at_call 38; refine (cube_all.calls N K _ HA3.out).mono ?_; rintro e w2 ⟨rfl, ⟨q, rfl⟩⟩)
        go_ret2
        refine ⟨.slice none 0 0, ?_⟩
        rw [if_neg HN.out]
        exact ⟨rfl, Kd.R_nil _ _ _ _ _, pw_below_drewN HB.out _⟩
    · obtain rfl : n = m := by omega
      have hfull : ls.take n = ls := by rw [HM.out, List.take_length]
      have hall := HAll.out
      have hbk := BK.out
      rw [hfull] at hall hbk
      have HN := Aside0.mk hall
      have HC := Aside0.mk (cover_calls N hN (setL ls) (setL_len ls) ⟨g, 0, none⟩ N 0 0 wr (by omega) (by decide) (arr_read (setL_len ls) hbk))
      clear hall hbk hfull
      go_wp2_with (go_at_call 44; refine HC.out.mono ?_; rintro e w2 ⟨v2, rfl, hr, hb⟩; have HR2 := Aside0.mk (Kd.R_lower hr HB.out.size); have HB2 := Aside0.mk (below_step HB.out hb); clear hr hb)
      go_ret2
      refine ⟨v2, ?_⟩
      rw [if_pos HN.out]
      exact ⟨rfl, HR2.out, HB2.out⟩
/-- Cover, as the printed texts ask for it. -/
def cube_Cover.f (a0 : Int) (l1 : List Int) : Option (List S24 × Int) :=
  if 0 ≤ a0 ∧ a0 ≤ 8 then (if (l1.map Int.toNat).all (fun x => decide (x < 2 ^ a0.toNat)) = true then some ((coverN (setL (l1.map Int.toNat)) (2 ^ a0.toNat) a0.toNat 0 0 0).map toS, 0) else some ([], 2)) else some ([], 2)
/-- Its call, at letters that are bytes. -/
theorem Cover_calls (a0 : Int) (A1 : Option Addr) (c1 : Nat) (l1 : List Int) (hl : ∀ x ∈ l1, 0 ≤ x ∧ x < 256) (r1 : List S24) (r2 : Int) (w : World) (hr1 : Kd.C (Kd.int .u8) w A1 l1.length l1) (hc1 : l1.length ≤ c1) (h : cube_Cover.f a0 l1 = some (r1, r2)) :
    Calls Try.prog 28 #[.int .i64 a0, .slice A1 l1.length c1] w fun e w' => ∃ v0_ : Value, e = .returned (.tuple #[v0_, .int .i64 r2]) ∧ Kd.R k24 24 w' w.heap.size (fun _ => True) v0_ r1 ∧ Below w.heap.size w w' := by
  unfold cube_Cover.f at h
  by_cases hb : 0 ≤ a0 ∧ a0 ≤ 8
  · rw [if_pos hb] at h
    obtain ⟨N, rfl⟩ := Int.eq_ofNat_of_zero_le hb.1
    rw [Int.toNat_natCast] at h
    have hN : N ≤ 8 := by omega
    have hmap : (l1.map Int.toNat).map (fun x : Nat => (x : Int)) = l1 := by
      rw [List.map_map]
      conv => rhs; rw [← List.map_id l1]
      refine List.map_congr_left fun x hx => ?_
      have := (hl x hx).1
      simp; omega
    have hlen : (l1.map Int.toNat).length = l1.length := List.length_map ..
    have hlt : ∀ x ∈ l1.map Int.toNat, x < 256 := by
      intro x hx
      obtain ⟨z, hz, rfl⟩ := List.mem_map.1 hx
      have := hl z hz
      omega
    have hg := cover_go N hN A1 c1 (l1.map Int.toNat) hlt w (by rw [hmap, hlen]; exact hr1) (by rw [hlen]; exact hc1)
    rw [hlen] at hg
    refine hg.mono fun e w' hh => ?_
    obtain ⟨v0, hh⟩ := hh
    by_cases ha : (l1.map Int.toNat).all (fun x => decide (x < 2 ^ N)) = true
    · rw [if_pos ha] at hh h
      simp only [Option.some.injEq, Prod.mk.injEq] at h
      obtain ⟨rfl, rfl⟩ := h
      exact ⟨v0, hh.1, hh.2.1, hh.2.2⟩
    · rw [if_neg ha] at hh h
      simp only [Option.some.injEq, Prod.mk.injEq] at h
      obtain ⟨rfl, rfl⟩ := h
      exact ⟨v0, hh.1, hh.2.1, hh.2.2⟩
  · rw [if_neg hb] at h
    simp only [Option.some.injEq, Prod.mk.injEq] at h
    obtain ⟨rfl, rfl⟩ := h
    exact cover_arg a0 hb A1 c1 l1 w
end Go.Proofs.Ytpnocpfagbfboaa.PCube
