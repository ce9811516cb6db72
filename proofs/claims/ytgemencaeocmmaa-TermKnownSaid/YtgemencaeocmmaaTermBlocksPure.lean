/- Of tokens that a run goes through each part's block stands by itself, and reads by itself as that part. Plain Lean. -/
import Derived.Test.YtgemencaeocmmaaTermPure
namespace Go.Proofs.Ytgemencaeocmmaa.PTerm
open Go.RowKit Go.Proofs.YtgemencaeocmmaaW.PrintWords Go.Proofs.YtgemencaeocmmaaW.PrintLast Go.Proofs.YtgemencaeocmmaaW.PrintMore
set_option linter.unusedVariables false
theorem step_some {i : Nat} {st : List Pt} {t : Tk} {q : List Pt × Pt} (h : step i st t = some q) :
    ∃ n, takesN t.f0 t.f1 = some n ∧ n ≤ st.length ∧ fitsB t.f0 (st.drop (st.length - n)) = true ∧ q = (st.take (st.length - n), mk t.f0 i (st.drop (st.length - n))) := by
  unfold step at h
  cases hn : takesN t.f0 t.f1 with
  | none => rw [hn] at h; cases h
  | some n =>
    rw [hn] at h
    simp only [Option.bind_some] at h
    by_cases hl : n ≤ st.length
    · rw [if_pos hl] at h
      by_cases hf : fitsB t.f0 (st.drop (st.length - n)) = true
      · rw [if_pos hf] at h
        exact ⟨n, rfl, hl, hf, (Option.some.inj h).symm⟩
      · rw [if_neg hf] at h; cases h
    · rw [if_neg hl] at h; cases h
theorem step_of {i : Nat} {st : List Pt} {t : Tk} {n : Nat} (hn : takesN t.f0 t.f1 = some n) (hl : n ≤ st.length) (hf : fitsB t.f0 (st.drop (st.length - n)) = true) :
    step i st t = some (st.take (st.length - n), mk t.f0 i (st.drop (st.length - n))) := by
  unfold step
  rw [hn]
  simp only [Option.bind_some]
  rw [if_pos hl, if_pos hf]
inductive Decomp : Nat → List Tk → List Pt → Prop
  | nil (i : Nat) : Decomp i [] []
  | snoc {i : Nat} {ts : List Tk} {st : List Pt} {B : List Tk} {allB : List Pt} {q : Pt} (h : Decomp i ts st) (hr : run (i + ts.length) [] [] B = some (allB, [q])) (hq : q.f3 = ((i + ts.length : Nat) : Int)) : Decomp i (ts ++ B) (st ++ [q])
theorem decomp_empty {i : Nat} {ts : List Tk} {st : List Pt} (h : Decomp i ts st) (hs : st = []) : ts = [] := by
  cases h with
  | nil => rfl
  | snoc h hr hq => simp at hs
theorem decomp_split {i : Nat} {ts : List Tk} {st : List Pt} (h : Decomp i ts st) : ∀ m, m ≤ st.length → ∃ t1 t2, ts = t1 ++ t2 ∧ Decomp i t1 (st.take m) ∧ Decomp (i + t1.length) t2 (st.drop m) := by
  induction h with
  | nil => intro m hm; exact ⟨[], [], rfl, by rw [List.take_nil]; exact .nil _, by rw [List.drop_nil]; exact .nil _⟩
  | snoc h hr hq ih =>
    rename_i ts st B allB q
    intro m hm
    by_cases hm1 : m ≤ st.length
    · obtain ⟨t1, t2, e, h1, h2⟩ := ih m hm1
      subst e
      refine ⟨t1, t2 ++ B, by rw [List.append_assoc], by rw [List.take_append_of_le_length hm1]; exact h1, ?_⟩
      rw [List.drop_append_of_le_length hm1]
      rw [List.length_append, ← Nat.add_assoc] at hr hq
      exact .snoc h2 hr hq
    · have hm2 : m = (st ++ [q]).length := by rw [List.length_append, List.length_singleton] at hm ⊢; omega
      refine ⟨ts ++ B, [], by rw [List.append_nil], by rw [hm2, List.take_length]; exact .snoc h hr hq, by rw [hm2, List.drop_length]; exact .nil _⟩
theorem decomp_run {i : Nat} {ts : List Tk} {st : List Pt} (h : Decomp i ts st) : ∃ all, run i [] [] ts = some (all, st) := by
  induction h with
  | nil => exact ⟨[], rfl⟩
  | snoc h hr hq ih =>
    obtain ⟨all, e⟩ := ih
    rename_i ts st B allB q
    refine ⟨all ++ allB, ?_⟩
    rw [run_append, e]
    have := run_frame B _ [] [] all st _ hr
    simp only [List.append_nil] at this
    exact this
theorem decomp_head {i : Nat} {ts : List Tk} {st : List Pt} (h : Decomp i ts st) (hs : st ≠ []) : ∀ j : Int, (st.head?.map fun x => x.f3).getD j = i := by
  induction h with
  | nil => exact absurd rfl hs
  | snoc h hr hq ih =>
    rename_i ts st B allB q
    intro j
    by_cases hst : st = []
    · subst hst
      have := decomp_empty h rfl
      subst this
      show q.f3 = i
      rw [hq]; rfl
    · have := ih hst j
      cases st with
      | nil => exact absurd rfl hst
      | cons x st => exact this
theorem decomp_step {i : Nat} {ts : List Tk} {st : List Pt} {t : Tk} {q : List Pt × Pt} (h : Decomp i ts st) (hs : step (i + ts.length) st t = some q) : Decomp i (ts ++ [t]) (q.1 ++ [q.2]) := by
  obtain ⟨n, hn, hl, hf, rfl⟩ := step_some hs
  obtain ⟨t1, t2, e, h1, h2⟩ := decomp_split h (st.length - n) (by omega)
  subst e
  obtain ⟨all2, h3⟩ := decomp_run h2
  have hal : (st.drop (st.length - n)).length = n := by rw [List.length_drop]; omega
  have hd : (st.drop (st.length - n)).drop ((st.drop (st.length - n)).length - n) = st.drop (st.length - n) := by rw [hal, Nat.sub_self, List.drop_zero]
  have ht : (st.drop (st.length - n)).take ((st.drop (st.length - n)).length - n) = [] := by rw [hal, Nat.sub_self, List.take_zero]
  have hst := step_of (i := i + t1.length + t2.length) (st := st.drop (st.length - n)) hn (by omega) (by rw [hd]; exact hf)
  rw [hd, ht] at hst
  rw [List.append_assoc]
  simp only
  rw [List.length_append, ← Nat.add_assoc]
  refine .snoc (allB := all2 ++ [mk t.f0 ((i + t1.length + t2.length : Nat) : Int) (st.drop (st.length - n))]) h1 ?_ ?_
  · rw [run_append, h3]
    simp only [Option.bind_some]
    rw [run, hst]
    rfl
  · show ((st.drop (st.length - n)).head?.map fun x => x.f3).getD _ = _
    by_cases he : st.drop (st.length - n) = []
    · have := decomp_empty h2 he
      rw [he, this]
      rfl
    · exact decomp_head h2 he _
theorem run_decomp_from (ts : List Tk) : ∀ i ts0 all st r, Decomp i ts0 st → run (i + ts0.length) all st ts = some r → Decomp i (ts0 ++ ts) r.2 := by
  induction ts with
  | nil => intro i ts0 all st r h hr; rw [run] at hr; obtain rfl := Option.some.inj hr; rw [List.append_nil]; exact h
  | cons t ts ih =>
    intro i ts0 all st r h hr
    rw [run] at hr
    cases hs : step (i + ts0.length) st t with
    | none => rw [hs] at hr; cases hr
    | some q =>
      rw [hs] at hr
      have := ih i (ts0 ++ [t]) _ _ r (decomp_step h hs) (by rw [List.length_append, List.length_singleton, ← Nat.add_assoc]; exact hr)
      rw [List.append_assoc] at this
      exact this
theorem run_decomp {ts : List Tk} {i : Nat} {r : List Pt × List Pt} (h : run i [] [] ts = some r) : Decomp i ts r.2 := run_decomp_from ts i [] [] [] r (.nil i) h
/-- What a run adds to the parts. -/
theorem run_all (ts : List Tk) : ∀ i all st r, run i all st ts = some r → ∃ R, r.1 = all ++ R ∧ R.length = ts.length := by
  induction ts with
  | nil => intro i all st r h; rw [run] at h; obtain rfl := Option.some.inj h; exact ⟨[], by simp, rfl⟩
  | cons t ts ih =>
    intro i all st r h
    rw [run] at h
    cases hs : step i st t with
    | none => rw [hs] at h; cases h
    | some q =>
      rw [hs] at h
      obtain ⟨R, e, hl⟩ := ih _ _ _ r h
      exact ⟨q.2 :: R, by rw [e]; simp, by simp [hl]⟩
theorem run_snoc {ts : List Tk} {t : Tk} {i : Nat} {r : List Pt × List Pt} (h : run i [] [] (ts ++ [t]) = some r) : ∃ q0 q, run i [] [] ts = some q0 ∧ step (i + ts.length) q0.2 t = some q ∧ r = (q0.1 ++ [q.2], q.1 ++ [q.2]) := by
  rw [run_append] at h
  cases h0 : run i [] [] ts with
  | none => rw [h0] at h; cases h
  | some q0 =>
    rw [h0] at h
    simp only [Option.bind_some] at h
    rw [run] at h
    cases hs : step (i + ts.length) q0.2 t with
    | none => rw [hs] at h; cases h
    | some q =>
      rw [hs] at h
      exact ⟨q0, q, rfl, hs, (Option.some.inj h).symm⟩
/-- Each token's block. -/
theorem block_of {l : List Tk} {r : List Pt × List Pt} (h : run 0 [] [] l = some r) {j : Nat} (hj : j < l.length) :
    ∃ t1 B q allB A, l.take (j + 1) = t1 ++ B ∧ r.1[j]? = some q ∧ q.f3 = (t1.length : Int) ∧ B ≠ [] ∧ run t1.length [] [] B = some (allB, [q]) ∧ r.1.take (j + 1) = A ++ allB ∧ A.length = t1.length := by
  have hsp : l = l.take (j + 1) ++ l.drop (j + 1) := (List.take_append_drop _ _).symm
  rw [hsp, run_append] at h
  cases h1 : run 0 [] [] (l.take (j + 1)) with
  | none => rw [h1] at h; cases h
  | some r1 =>
    rw [h1] at h
    obtain ⟨R, hR, hRl⟩ := run_all _ _ _ _ _ h
    obtain ⟨R1, hR1, hRl1⟩ := run_all _ _ _ _ _ h1
    rw [List.nil_append] at hR1
    subst hR1
    have hlen : r1.1.length = j + 1 := by rw [hRl1, List.length_take]; omega
    have htk : r.1.take (j + 1) = r1.1 := by rw [hR, ← hlen, List.take_left]
    have h1' := h1
    rw [List.take_succ_eq_append_getElem hj] at h1'
    obtain ⟨q0, q, h2, h3, e⟩ := run_snoc h1'
    have hD := run_decomp h1
    rw [e] at hD
    simp only at hD
    obtain ⟨t1, B, eB, hD1, hD2⟩ := decomp_split hD q.1.length (by rw [List.length_append]; omega)
    rw [List.take_left] at hD1
    rw [List.drop_left] at hD2
    rw [Nat.zero_add] at hD2
    obtain ⟨allB, hrB⟩ := decomp_run hD2
    obtain ⟨A, hrA⟩ := decomp_run hD1
    have hq : r.1[j]? = some q.2 := by
      have hl0 : q0.1.length = j := by
        have : r1.1.length = q0.1.length + 1 := by rw [e]; simp
        omega
      have h4 : (r.1.take (j + 1))[j]? = some q.2 := by rw [htk, e]; simp [← hl0]
      rwa [List.getElem?_take_of_lt (by omega)] at h4
    obtain ⟨RA, hRA, hRAl⟩ := run_all _ _ _ _ _ hrA
    rw [List.nil_append] at hRA
    subst hRA
    refine ⟨t1, B, q.2, allB, A, eB, hq, ?_, ?_, hrB, ?_, hRAl⟩
    · have := decomp_head hD2 (by simp) 0
      exact this
    · rintro rfl
      rw [run] at hrB
      cases hrB
    · rw [htk]
      rw [eB, run_append, hrA] at h1
      have h5 := run_frame B _ [] [] A q.1 _ hrB
      simp only [List.append_nil] at h5
      simp only [Option.bind_some] at h1
      rw [Nat.zero_add, h5] at h1
      rw [← Option.some.inj h1]
/-- Where blocks begin. -/
theorem run_from (ts : List Tk) : ∀ (i : Nat) (all st : List Pt) (r : List Pt × List Pt) (b : Int), run i all st ts = some r → b ≤ i → (∀ p ∈ st, b ≤ p.f3) → (∀ p ∈ all, b ≤ p.f3) → ∀ p ∈ r.1, b ≤ p.f3 := by
  induction ts with
  | nil => intro i all st r b h _ _ ha; rw [run] at h; obtain rfl := Option.some.inj h; exact ha
  | cons t ts ih =>
    intro i all st r b h hb hs ha
    rw [run] at h
    cases he : step i st t with
    | none => rw [he] at h; cases h
    | some q =>
      rw [he] at h
      obtain ⟨n, hn, hl, hf, rfl⟩ := step_some he
      have hm : b ≤ (mk t.f0 i (st.drop (st.length - n))).f3 := by
        show b ≤ ((st.drop (st.length - n)).head?.map fun x => x.f3).getD (i : Int)
        cases hx : (st.drop (st.length - n)).head? with
        | none => exact hb
        | some x => exact hs x (List.mem_of_mem_drop (List.mem_of_mem_head? hx))
      refine ih _ _ _ r b h (by omega) ?_ ?_
      · intro p hp
        rcases List.mem_append.1 hp with hp | hp
        · exact hs p (List.mem_of_mem_take hp)
        · rw [List.mem_singleton.1 hp]; exact hm
      · intro p hp
        rcases List.mem_append.1 hp with hp | hp
        · exact ha p hp
        · rw [List.mem_singleton.1 hp]; exact hm
theorem fold_max (a : List Pt) : ∀ z : Int, z ≤ a.foldl (fun d x => max d (x.f2 + 1)) z ∧ ∀ x ∈ a, x.f2 + 1 ≤ a.foldl (fun d x => max d (x.f2 + 1)) z := by
  induction a with
  | nil => intro z; exact ⟨Int.le_refl _, fun _ h => by cases h⟩
  | cons y a ih =>
    intro z
    have h := ih (max z (y.f2 + 1))
    rw [List.foldl_cons]
    refine ⟨by have := h.1; omega, ?_⟩
    intro x hx
    rcases List.mem_cons.1 hx with rfl | hx
    · have := h.1; omega
    · exact h.2 x hx
theorem fold_bound (a : List Pt) : ∀ z m : Int, z ≤ m → (∀ x ∈ a, x.f2 + 1 ≤ m) → a.foldl (fun d x => max d (x.f2 + 1)) z ≤ m := by
  induction a with
  | nil => intro z m h _; exact h
  | cons y a ih =>
    intro z m h ha
    rw [List.foldl_cons]
    refine ih _ m ?_ fun x hx => ha x (List.mem_cons_of_mem _ hx)
    have := ha y List.mem_cons_self
    omega
/-- No part is nested deeper than one that is left. -/
theorem run_deep (ts : List Tk) : ∀ (i : Nat) (all st : List Pt) (r : List Pt × List Pt), run i all st ts = some r → (∀ p ∈ all, ∃ q ∈ st, p.f2 ≤ q.f2) → ∀ p ∈ r.1, ∃ q ∈ r.2, p.f2 ≤ q.f2 := by
  induction ts with
  | nil => intro i all st r h ha; rw [run] at h; obtain rfl := Option.some.inj h; exact ha
  | cons t ts ih =>
    intro i all st r h ha
    rw [run] at h
    cases he : step i st t with
    | none => rw [he] at h; cases h
    | some q =>
      rw [he] at h
      obtain ⟨n, hn, hl, hf, rfl⟩ := step_some he
      refine ih _ _ _ r h ?_
      intro p hp
      rcases List.mem_append.1 hp with hp | hp
      · obtain ⟨x, hx, hle⟩ := ha p hp
        rw [← List.take_append_drop (st.length - n) st] at hx
        rcases List.mem_append.1 hx with hx | hx
        · exact ⟨x, List.mem_append_left _ hx, hle⟩
        · refine ⟨_, List.mem_append_right _ List.mem_cons_self, ?_⟩
          have h2 : x.f2 + 1 ≤ (mk t.f0 i (st.drop (st.length - n))).f2 := (fold_max _ 1).2 x hx
          simp only
          omega
      · rw [List.mem_singleton.1 hp]
        exact ⟨_, List.mem_append_right _ List.mem_cons_self, Int.le_refl _⟩
/-- How deep parts are nested. -/
theorem run_depth (ts : List Tk) : ∀ (i : Nat) (all st : List Pt) (r : List Pt × List Pt), run i all st ts = some r → (∀ p ∈ st, 1 ≤ p.f2 ∧ p.f2 ≤ i) → (∀ p ∈ all, 1 ≤ p.f2 ∧ p.f2 ≤ i) → (∀ p ∈ r.1, 1 ≤ p.f2 ∧ p.f2 ≤ ((i + ts.length : Nat) : Int)) ∧ ∀ p ∈ r.2, 1 ≤ p.f2 ∧ p.f2 ≤ ((i + ts.length : Nat) : Int) := by
  induction ts with
  | nil => intro i all st r h hs ha; rw [run] at h; obtain rfl := Option.some.inj h; exact ⟨ha, hs⟩
  | cons t ts ih =>
    intro i all st r h hs ha
    rw [run] at h
    cases he : step i st t with
    | none => rw [he] at h; cases h
    | some q =>
      rw [he] at h
      obtain ⟨n, hn, hl, hf, rfl⟩ := step_some he
      have hm : 1 ≤ (mk t.f0 i (st.drop (st.length - n))).f2 ∧ (mk t.f0 i (st.drop (st.length - n))).f2 ≤ ((i + 1 : Nat) : Int) := by
        refine ⟨(fold_max _ 1).1, fold_bound _ 1 _ (by omega) fun x hx => ?_⟩
        have := hs x (List.mem_of_mem_drop hx)
        omega
      have := ih (i + 1) _ _ r h ?_ ?_
      · rw [List.length_cons, show i + (ts.length + 1) = i + 1 + ts.length by omega]; exact this
      · intro p hp
        rcases List.mem_append.1 hp with hp | hp
        · have := hs p (List.mem_of_mem_take hp); omega
        · rw [List.mem_singleton.1 hp]; exact hm
      · intro p hp
        rcases List.mem_append.1 hp with hp | hp
        · have := ha p hp; omega
        · rw [List.mem_singleton.1 hp]; exact hm
end Go.Proofs.Ytgemencaeocmmaa.PTerm
