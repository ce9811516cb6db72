/- The law on building up: of any tokens the law's function as a Lean function answers true. Plain Lean. -/
import Derived.Test.YtgemencaeocmmaaTermBlocksA1
import Derived.Test.YtgemencaeocmmaaPTermx17
namespace Go.Proofs.Ytgemencaeocmmaa.PTerm
open Go.RowKit Go.Proofs.YtgemencaeocmmaaW.PrintWords Go.Proofs.YtgemencaeocmmaaW.PrintLast Go.Proofs.YtgemencaeocmmaaW.PrintMore
set_option linter.unusedVariables false
theorem takes_none {o p : Int} {n : Nat} (h : takesN o p = some n) (hn : 0 < n) : p = 0 ∧ ¬ o = 2 := by
  unfold takesN at h
  by_cases c : (¬ o = 2 ∧ ¬ p = 0) ∨ p ≥ 8
  · rw [if_pos c] at h; cases h
  rw [if_neg c] at h
  by_cases c2 : o = 0 ∨ o = 1 ∨ o = 2 ∨ o = 3 ∨ o = 4 ∨ o = 5
  · rw [if_pos c2] at h; obtain rfl := Option.some.inj h; omega
  · omega
theorem takes_one {o p : Int} (h : takesN o p = some 1) : o = 6 ∨ o = 7 ∨ o = 8 ∨ o = 9 ∨ o = 10 ∨ o = 19 ∨ o = 20 ∨ o = 23 := by
  unfold takesN at h
  by_cases c : (¬ o = 2 ∧ ¬ p = 0) ∨ p ≥ 8
  · rw [if_pos c] at h; cases h
  rw [if_neg c] at h
  by_cases c2 : o = 0 ∨ o = 1 ∨ o = 2 ∨ o = 3 ∨ o = 4 ∨ o = 5
  · rw [if_pos c2] at h; cases h
  rw [if_neg c2] at h
  by_cases c3 : o = 6 ∨ o = 7 ∨ o = 8 ∨ o = 9 ∨ o = 10 ∨ o = 19 ∨ o = 20 ∨ o = 23
  · exact c3
  rw [if_neg c3] at h
  split at h <;> cases h
theorem takes_two {o p : Int} (h : takesN o p = some 2) : o = 11 ∨ o = 12 ∨ o = 13 ∨ o = 14 ∨ o = 15 ∨ o = 16 ∨ o = 17 ∨ o = 18 ∨ o = 21 ∨ o = 22 := by
  unfold takesN at h
  by_cases c : (¬ o = 2 ∧ ¬ p = 0) ∨ p ≥ 8
  · rw [if_pos c] at h; cases h
  rw [if_neg c] at h
  by_cases c2 : o = 0 ∨ o = 1 ∨ o = 2 ∨ o = 3 ∨ o = 4 ∨ o = 5
  · rw [if_pos c2] at h; cases h
  rw [if_neg c2] at h
  by_cases c3 : o = 6 ∨ o = 7 ∨ o = 8 ∨ o = 9 ∨ o = 10 ∨ o = 19 ∨ o = 20 ∨ o = 23
  · rw [if_pos c3] at h; cases h
  rw [if_neg c3] at h
  by_cases c4 : o = 11 ∨ o = 12 ∨ o = 13 ∨ o = 14 ∨ o = 15 ∨ o = 16 ∨ o = 17 ∨ o = 18 ∨ o = 21 ∨ o = 22
  · exact c4
  rw [if_neg c4] at h; cases h
theorem takesN_zero {o p : Int} {n : Nat} (h : takesN o p = some n) (hn : 0 < n) : takesI o 0 = n := by
  obtain ⟨rfl, _⟩ := takes_none h hn
  unfold takesI; rw [h]
theorem fits_one_b {o : Int} (h : o = 6 ∨ o = 7 ∨ o = 8 ∨ o = 9 ∨ o = 10 ∨ o = 19 ∨ o = 20 ∨ o = 23) {x : Pt} (hf : fitsB o [x] = true) : x.f0 = (o == 23) := by
  unfold fitsB at hf
  rw [if_neg (by omega), if_neg (by omega)] at hf
  by_cases c : o = 23
  · rw [if_pos c] at hf; subst c; simpa using hf
  · rw [if_neg c] at hf
    have : (o == 23) = false := beq_eq_false_iff_ne.2 c
    rw [this]
    by_cases c2 : o = 19
    · rw [if_pos c2] at hf; simp at hf; exact hf.1
    · rw [if_neg c2] at hf; simpa using hf
theorem fits_two_b {o : Int} (h : o = 11 ∨ o = 12 ∨ o = 13 ∨ o = 14 ∨ o = 15 ∨ o = 16 ∨ o = 17 ∨ o = 18 ∨ o = 21 ∨ o = 22) {y x : Pt} (hf : fitsB o [y, x] = true) :
    y.f0 = decide (o ≥ 17) ∧ x.f0 = decide (o ≥ 19) := by
  unfold fitsB at hf
  by_cases c : o = 17 ∨ o = 18
  · rw [if_pos c] at hf; simp at hf
    exact ⟨by rw [hf.1]; exact (decide_eq_true (by omega)).symm, by rw [hf.2]; exact (decide_eq_false (by omega)).symm⟩
  rw [if_neg c] at hf
  by_cases c2 : o = 21 ∨ o = 22
  · rw [if_pos c2] at hf; simp at hf
    exact ⟨by rw [hf.1]; exact (decide_eq_true (by omega)).symm, by rw [hf.2]; exact (decide_eq_true (by omega)).symm⟩
  rw [if_neg c2, if_neg (by omega), if_neg (by omega)] at hf
  simp at hf
  exact ⟨by rw [hf.1]; exact (decide_eq_false (by omega)).symm, by rw [hf.2]; exact (decide_eq_false (by omega)).symm⟩
/-- What the last token takes. -/
theorem last_takes {l : List Tk} {t : Tk} {all : List Pt} {p : Pt} (h : run 0 [] [] (l ++ [t]) = some (all, [p])) :
    ∃ A st, run 0 [] [] l = some (A, st) ∧ all = A ++ [p] ∧ takesN t.f0 t.f1 = some st.length ∧ fitsB t.f0 st = true ∧ p = mk t.f0 l.length st := by
  obtain ⟨q0, q, h2, h3, e⟩ := run_snoc h
  simp only [Prod.mk.injEq] at e
  rw [Nat.zero_add] at h3
  obtain ⟨n, hn, hl, hf, rfl⟩ := step_some h3
  have hq1 : q0.2.take (q0.2.length - n) = [] := by
    have := congrArg List.length e.2
    simp at this
    exact List.length_eq_zero_iff.1 (by rw [List.length_take]; omega)
  have hst : q0.2.length = n := by
    have := congrArg List.length hq1
    rw [List.length_take, List.length_nil] at this
    omega
  have hd : q0.2.drop (q0.2.length - n) = q0.2 := by rw [hst, Nat.sub_self, List.drop_zero]
  have hp : p = mk t.f0 l.length (q0.2.drop (q0.2.length - n)) := by
    have := e.2
    simp only at this
    rw [hq1] at this
    simpa using this
  have ha := e.1
  simp only at ha
  rw [hd] at hf hp ha
  exact ⟨q0.1, q0.2, h2, by rw [ha, hp], by rw [hst]; exact hn, hf, hp⟩
/-- The last token's part lies on the stack's top. -/
theorem last_top {l : List Tk} {A st : List Pt} (h : run 0 [] [] l = some (A, st)) (hl : 0 < l.length) : ∃ S x, st = S ++ [x] ∧ A[l.length - 1]? = some x := by
  have hn : l ≠ [] := List.length_pos_iff.1 hl
  have hsp : l = l.dropLast ++ [l.getLast hn] := (List.dropLast_concat_getLast hn).symm
  rw [hsp] at h
  obtain ⟨q0, q, h2, h3, e⟩ := run_snoc h
  simp only [Prod.mk.injEq] at e
  obtain ⟨R0, e0, hR0⟩ := run_all _ _ _ _ _ h2
  rw [List.nil_append] at e0
  have hl0 : q0.1.length = l.length - 1 := by rw [e0, hR0, List.length_dropLast]
  refine ⟨q.1, q.2, e.2, ?_⟩
  rw [e.1, ← hl0]
  simp
theorem un_ev {l : List Tk} {t : Tk} (hl : l.length ≤ 200) {all : List Pt} {p : Pt} (h : run 0 [] [] (l ++ [t]) = some (all, [p])) (h64 : p.f2 ≤ 64) {A : List Pt} {x : Pt} (h1 : run 0 [] [] l = some (A, [x]))
    (hn : takesN t.f0 t.f1 = some 1) (hf : fitsB t.f0 [x] = true) (hp : p = mk t.f0 l.length [x]) : Ev (fun k => term_Un.f k t.f0 l) (l ++ [t], 0) := by
  have hx : x.f0 = (t.f0 == 23) := fits_one_b (takes_one hn) hf
  have hx2 : x.f2 ≤ 64 := by
    have : x.f2 + 1 ≤ p.f2 := by rw [hp]; exact (fold_max [x] 1).2 x (by simp)
    omega
  have hc1 : Aside0 (checkN l (t.f0 == 23) = 0) := ⟨by rw [check_of h1 hx2, if_pos hx]⟩
  have hp0 : p.f0 = decide (t.f0 ≥ 19) := by rw [hp]; rfl
  have hc2 : Aside0 (checkN (l ++ [t]) (decide (t.f0 ≥ 19)) = 0) := ⟨by rw [check_of h h64, if_pos hp0]⟩
  have ht : (⟨t.f0, 0⟩ : Tk) = t := by have := (takes_none hn (by omega)).1; cases t; simp at this; rw [this]
  have hfl : [l, [(⟨t.f0, 0⟩ : Tk)]].flatten = l ++ [t] := by rw [ht]; simp
  have hll : (l ++ [t]).length ≤ 201 := by rw [List.length_append, List.length_singleton]; omega
  have hz := takesN_zero hn (by omega)
  refine Ev.bind (takes_ev t.f0 0) ?_
  rw [hz]
  refine Ev.congr (f := fun k => (term_check.f k l (t.f0 == 23)).bind fun t308 => if t308 = 0 then (slices_Concat.f [l, [(⟨t.f0, 0⟩ : Tk)]]).bind fun t315 => (term_whole.f k t315 (decide (t.f0 ≥ 19))).bind fun bt318 => some (bt318.1, bt318.2) else some (([] : List Tk), t308)) (fun k => by (try dsimp only); rw [if_pos (by decide)]) ?_
  have he1 := check_ev l (t.f0 == 23) (by omega)
  rw [hc1.out] at he1
  refine Ev.bind he1 ?_
  refine Ev.congr (f := fun k => (term_whole.f k (l ++ [t]) (decide (t.f0 ≥ 19))).bind fun bt318 => some (bt318.1, bt318.2)) (fun k => by (try dsimp only); rw [if_pos rfl, concat_now _ (by simp) (by rw [hfl]; omega), hfl]; rfl) ?_
  have he2 := whole_ev (l ++ [t]) (decide (t.f0 ≥ 19)) (by omega)
  rw [hc2.out, if_pos rfl] at he2
  exact Ev.bind he2 (Ev.now _)
theorem bin_ev {l m : List Tk} {t : Tk} (hl : (l ++ m).length ≤ 200) {all : List Pt} {p : Pt} (h : run 0 [] [] (l ++ m ++ [t]) = some (all, [p])) (h64 : p.f2 ≤ 64) {A A2 : List Pt} {y x : Pt} (h1 : run 0 [] [] l = some (A, [y])) (h2 : run l.length [] [] m = some (A2, [x]))
    (hn : takesN t.f0 t.f1 = some 2) (hf : fitsB t.f0 [y, x] = true) (hp : p = mk t.f0 (l ++ m).length [y, x]) : Ev (fun k => term_Bin.f k t.f0 l m) (l ++ m ++ [t], 0) := by
  have ho := takes_two hn
  obtain ⟨hy, hx⟩ := fits_two_b ho hf
  have hy2 : y.f2 ≤ 64 := by
    have : y.f2 + 1 ≤ p.f2 := by rw [hp]; exact (fold_max [y, x] 1).2 y (by simp)
    omega
  have hx2 : x.f2 ≤ 64 := by
    have : x.f2 + 1 ≤ p.f2 := by rw [hp]; exact (fold_max [y, x] 1).2 x (by simp)
    omega
  obtain ⟨A3, x0, h3, hf0, hf2, _, _⟩ := alone h2
  have hc1 : Aside0 (checkN l (decide (t.f0 ≥ 17)) = 0) := ⟨by rw [check_of h1 hy2, if_pos hy]⟩
  have hc3 : Aside0 (checkN m (decide (t.f0 ≥ 19)) = 0) := ⟨by rw [check_of h3 (by omega), if_pos (hf0.trans hx)]⟩
  have hp0 : p.f0 = decide (t.f0 ≥ 19) := by rw [hp]; rfl
  have hc2 : Aside0 (checkN (l ++ m ++ [t]) (decide (t.f0 ≥ 19)) = 0) := ⟨by rw [check_of h h64, if_pos hp0]⟩
  have ht : (⟨t.f0, 0⟩ : Tk) = t := by have := (takes_none hn (by omega)).1; cases t; simp at this; rw [this]
  have hfl : [l, m, [(⟨t.f0, 0⟩ : Tk)]].flatten = l ++ m ++ [t] := by rw [ht]; simp
  have hll : (l ++ m ++ [t]).length ≤ 201 := by rw [List.length_append, List.length_singleton]; omega
  rw [List.length_append] at hl
  have hz := takesN_zero hn (by omega)
  refine Ev.bind (takes_ev t.f0 0) ?_
  rw [hz]
  refine Ev.congr (f := fun k => (term_check.f k l (decide (t.f0 ≥ 17))).bind fun t346 => term_Bin.j0 k t.f0 l m (decide (t.f0 ≥ 19)) t346) (fun k => ?_) ?_
  · (try dsimp only)
    rw [if_pos (by decide)]
    by_cases c : t.f0 ≥ 19
    · have d : decide (t.f0 ≥ 17) = true := decide_eq_true (by omega)
      rw [if_pos c, d]
    · rw [if_neg c]
      by_cases c2 : t.f0 = 17
      · have d : decide (t.f0 ≥ 17) = true := decide_eq_true (by omega)
        rw [if_pos c2, d]
      · have d : (t.f0 == 18) = decide (t.f0 ≥ 17) := by
          by_cases c3 : t.f0 = 18
          · rw [beq_iff_eq.2 c3]; exact (decide_eq_true (by omega)).symm
          · rw [beq_eq_false_iff_ne.2 c3]; exact (decide_eq_false (by omega)).symm
        rw [if_neg c2, d]
  have he1 := check_ev l (decide (t.f0 ≥ 17)) (by omega)
  rw [hc1.out] at he1
  refine Ev.bind he1 ?_
  refine Ev.step (f := fun k => (term_check.f k m (decide (t.f0 ≥ 19))).bind fun t349 => if t349 = 0 then (slices_Concat.f [l, m, [(⟨t.f0, 0⟩ : Tk)]]).bind fun t356 => (term_whole.f k t356 (decide (t.f0 ≥ 19))).bind fun bt359 => some (bt359.1, bt359.2) else some (([] : List Tk), t349)) (fun k => by rw [term_Bin.j0, if_pos rfl]) ?_
  have he3 := check_ev m (decide (t.f0 ≥ 19)) (by omega)
  rw [hc3.out] at he3
  refine Ev.bind he3 ?_
  refine Ev.congr (f := fun k => (term_whole.f k (l ++ m ++ [t]) (decide (t.f0 ≥ 19))).bind fun bt359 => some (bt359.1, bt359.2)) (fun k => by (try dsimp only); rw [if_pos rfl, concat_now _ (by simp) (by rw [hfl]; omega), hfl]; rfl) ?_
  have he2 := whole_ev (l ++ m ++ [t]) (decide (t.f0 ≥ 19)) (by omega)
  rw [hc2.out, if_pos rfl] at he2
  exact Ev.bind he2 (Ev.now _)
/-- The walk behind the checks. -/
theorem up_ev {l : List Tk} (hl : l.length ≤ 150) (h2 : 2 ≤ l.length) {path : Bool} (hc : checkN l path = 0) : Ev (fun k => rejoinderlaw03_TermUp.j0 k l true false) true := by
  have her : errN l = 0 := by
    by_cases c : errN l = 0
    · exact c
    · exact absurd hc (err_some c path)
  obtain ⟨all, p, h, h64, hei⟩ := err_none her
  obtain ⟨hpos, hlen, hlast, h30⟩ := last_part h
  have hml : (all.map fun p => p.f3).length = l.length := by rw [List.length_map, hlen]
  have hb := blocks_ev l (by omega)
  rw [if_pos her, hei] at hb
  have hn : l ≠ [] := List.length_pos_iff.1 hpos
  have hsp : l = l.dropLast ++ [l.getLast hn] := (List.dropLast_concat_getLast hn).symm
  obtain ⟨t, ht⟩ : ∃ t, t = l.getLast hn := ⟨_, rfl⟩
  obtain ⟨l', hl'⟩ : ∃ l', l' = l.dropLast := ⟨_, rfl⟩
  rw [← ht, ← hl'] at hsp
  have hll : l'.length = l.length - 1 := by rw [hl', List.length_dropLast]
  clear ht hl' hn
  have hr : run 0 [] [] (l' ++ [t]) = some (all, [p]) := by rw [← hsp]; exact h
  obtain ⟨A, st, h1, hA, hn, hf, hp⟩ := last_takes hr
  obtain ⟨S, x, hst, hax⟩ := last_top h1 (by omega)
  have hD := run_decomp h1
  simp only at hD
  obtain ⟨RA, eA, hRA⟩ := run_all _ _ _ _ _ h1
  rw [List.nil_append] at eA
  simp only at eA
  subst eA
  have hall : all[l.length - 1 - 1]? = some x := by rw [hA, List.getElem?_append_left (by omega), ← hll]; exact hax
  have e1 : Aside0 (wrap64 ((l.length : Int) - 1) = ((l.length - 1 : Nat) : Int)) := ⟨by rw [w64 (by omega) (by omega)]; omega⟩
  have e2 : Aside0 (wrap64 (((l.length - 1 : Nat) : Int) - 1) = ((l.length - 1 - 1 : Nat) : Int)) := ⟨by rw [w64 (by omega) (by omega)]; omega⟩
  have hfx : Aside0 (rd (all.map fun p => p.f3) ((l.length - 1 - 1 : Nat) : Int) = x.f3) := ⟨rd_map _ all _ x hall⟩
  have hlt : rd_T50 l ((l.length - 1 : Nat) : Int) = t := by
    rw [rdK_at l (l.length - 1) (by omega)]
    have : l[l.length - 1]? = some t := by
      have e : l[l.length - 1]? = (l' ++ [t])[l'.length]? := by rw [← hsp, hll]
      rw [e]; simp
    rw [List.getElem?_eq_getElem (by omega)] at this
    exact Option.some.inj this
  have htk : l.take (l.length - 1) = l' := by
    have e : l.take (l.length - 1) = (l' ++ [t]).take l'.length := by rw [← hsp, hll]
    rw [e, List.take_left]
  refine Ev.step (f := fun k => (term_Blocks.f k l).bind fun bt527 => if bt527.2 = 0 then rejoinderlaw03_TermUp.j1 k l true bt527.1 ((bt527.1.length : Int) != (l.length : Int)) else rejoinderlaw03_TermUp.j1 k l true bt527.1 true) (fun k => by rw [rejoinderlaw03_TermUp.j0, if_neg (by decide)]) ?_
  refine Ev.bind hb ?_
  have hne : (((all.map fun p => p.f3).length : Int) != (l.length : Int)) = false := by rw [hml]; simp
  refine Ev.congr (f := fun k => rejoinderlaw03_TermUp.j1 k l true (all.map fun p => p.f3) false) (fun k => by (try dsimp only); rw [if_pos rfl, hne]) ?_
  -- where the last part's block begins
  have hcase : (st = [x] ∧ x.f3 = 0) ∨ ∃ y t1 t2 A1 A2, st = [y, x] ∧ l' = t1 ++ t2 ∧ t1 ≠ [] ∧ x.f3 = t1.length ∧ run 0 [] [] t1 = some (A1, [y]) ∧ run t1.length [] [] t2 = some (A2, [x]) := by
    have hle := takesN_le hn
    match S, hst with
    | [], e =>
      have e' : st = [x] := by simpa using e
      left
      refine ⟨e', ?_⟩
      have := decomp_head hD (by rw [e']; simp) 0
      rw [e'] at this
      exact this
    | [y], e =>
      right
      have e' : st = [y, x] := by simpa using e
      rw [e'] at hD
      obtain ⟨t1, t2, es, hD1, hD2⟩ := decomp_split hD 1 (by simp)
      have hD1' : Decomp 0 t1 [y] := hD1
      have hD2' : Decomp t1.length t2 [x] := by rw [Nat.zero_add] at hD2; exact hD2
      obtain ⟨A1, hA1⟩ := decomp_run hD1'
      obtain ⟨A2, hA2⟩ := decomp_run hD2'
      refine ⟨y, t1, t2, A1, A2, e', es, ?_, decomp_head hD2' (by simp) 0, hA1, hA2⟩
      rintro rfl
      rw [run] at hA1
      cases hA1
    | y :: z :: S, e =>
      exfalso
      rw [e] at hle
      simp at hle
  rcases hcase with ⟨e, hx0⟩ | ⟨y, t1, t2, A1, A2, e, es, hne1, hxf, hr1, hr2⟩
  · rw [e] at hn hf hp h1
    have hu := un_ev (t := t) (by omega) hr h64 h1 hn hf hp
    rw [← hsp] at hu
    refine Ev.step (f := fun k => rejoinderlaw03_TermUp.j2 k l true ((l.length - 1 : Nat) : Int) 0 false) (fun k => ?_) ?_
    · rw [rejoinderlaw03_TermUp.j1, if_neg (by decide), e1.out, e2.out, if_pos (by omega), if_pos (by omega), hfx.out, hx0, if_neg (by omega), decide_eq_false (by omega)]
    · refine Ev.step (f := fun k => (term_Un.f k t.f0 l').bind fun bt537 => if true = true then (if bt537.2 = 0 then (rejoinderkit_SameToks.f k bt537.1 l).bind fun t541 => some t541 else some false) else some false) (fun k => ?_) ?_
      · rw [rejoinderlaw03_TermUp.j2, if_neg (by decide), if_pos rfl, if_pos (by omega), if_pos (by omega), if_pos (by omega), hlt, Int.toNat_natCast, htk]
      · refine Ev.bind hu ?_
        refine Ev.congr (f := fun k => (rejoinderkit_SameToks.f k l l).bind fun t541 => some t541) (fun k => by (try dsimp only); rw [if_pos rfl, if_pos rfl]) ?_
        exact Ev.bind (same_ev l (by omega)) (Ev.now _)
  · rw [e] at hn hf hp
    rw [es] at hr hp
    have h1p : 0 < t1.length := List.length_pos_iff.2 hne1
    have hln : t1.length + t2.length = l.length - 1 := by rw [← hll, es, List.length_append]
    have hu := bin_ev (t := t) (l := t1) (m := t2) (by rw [List.length_append]; omega) hr h64 hr1 hr2 hn hf hp
    rw [← es, ← hsp] at hu
    have hta : l.take t1.length = t1 := by
      have : l = t1 ++ (t2 ++ [t]) := by rw [hsp, es, List.append_assoc]
      rw [this, List.take_left]
    have htb : l'.drop t1.length = t2 := by rw [es, List.drop_left]
    refine Ev.step (f := fun k => rejoinderlaw03_TermUp.j2 k l true ((l.length - 1 : Nat) : Int) ((t1.length : Nat) : Int) false) (fun k => ?_) ?_
    · rw [rejoinderlaw03_TermUp.j1, if_neg (by decide), e1.out, e2.out, if_pos (by omega), if_pos (by omega), hfx.out, hxf, if_neg (by omega), decide_eq_false (by omega)]
    · refine Ev.step (f := fun k => (term_Bin.f k t.f0 t1 t2).bind fun bt551 => if true = true then (if bt551.2 = 0 then (rejoinderkit_SameToks.f k bt551.1 l).bind fun t555 => some t555 else some false) else some false) (fun k => ?_) ?_
      · rw [rejoinderlaw03_TermUp.j2, if_neg (by decide), if_neg (by omega), if_pos (by omega), if_pos (by omega), if_pos (by omega), if_pos (by omega), if_pos (by omega), if_pos (by omega), hlt, Int.toNat_natCast, Int.toNat_natCast, htk, htb, hta]
      · refine Ev.bind hu ?_
        refine Ev.congr (f := fun k => (rejoinderkit_SameToks.f k l l).bind fun t541 => some t541) (fun k => by (try dsimp only); rw [if_pos rfl, if_pos rfl]) ?_
        exact Ev.bind (same_ev l (by omega)) (Ev.now _)
theorem up_true (l : List Tk) : Ev (fun k => rejoinderlaw03_TermUp.f k l) true := by
  have done : Ev (fun k => rejoinderlaw03_TermUp.j0 k l true true) true := Ev.step (f := fun _ => some true) (fun k => by rw [rejoinderlaw03_TermUp.j0, if_pos rfl]) (Ev.now _)
  refine Ev.bind awake_ev ?_
  by_cases hl : (l.length : Int) > 150
  · exact Ev.congr (fun k => by rw [if_pos hl]) done
  · have tail : ∀ path, checkN l path = 0 → Ev (fun k => rejoinderlaw03_TermUp.j0 k l true (decide ((l.length : Int) < 2))) true := by
      intro path hc
      by_cases h2 : (l.length : Int) < 2
      · rw [decide_eq_true h2]; exact done
      · rw [decide_eq_false h2]; exact up_ev (by omega) (by omega) hc
    refine Ev.congr (f := fun k => (term_Check.f k l).bind fun t525 => if t525 = 0 then rejoinderlaw03_TermUp.j0 k l true (decide ((l.length : Int) < 2)) else (term_Path.f k l).bind fun t526 => if t526 = 0 then rejoinderlaw03_TermUp.j0 k l true (decide ((l.length : Int) < 2)) else rejoinderlaw03_TermUp.j0 k l true true) (fun k => by rw [if_neg hl]) ?_
    refine Ev.bind (Check_ev l (by omega)) ?_
    by_cases hc : checkN l false = 0
    · exact Ev.congr (fun k => by rw [if_pos hc]) (tail false hc)
    · refine Ev.congr (f := fun k => (term_Path.f k l).bind fun t526 => if t526 = 0 then rejoinderlaw03_TermUp.j0 k l true (decide ((l.length : Int) < 2)) else rejoinderlaw03_TermUp.j0 k l true true) (fun k => by rw [if_neg hc]) ?_
      refine Ev.bind (Path_ev l (by omega)) ?_
      by_cases hc2 : checkN l true = 0
      · exact Ev.congr (fun k => by rw [if_pos hc2]) (tail true hc2)
      · exact Ev.congr (fun k => by rw [if_neg hc2]) done
end Go.Proofs.Ytgemencaeocmmaa.PTerm
