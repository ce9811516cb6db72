/- What the program's read tells of at most 512 tokens: the run's parts, and the one that is left. -/
import Derived.Test.YtgemencaeocmmaaTermBlocksPure
import Derived.Test.YtgemencaeocmmaaPTermx3
namespace Go.Proofs.Ytgemencaeocmmaa.PTerm
open Go.RowKit Go.Proofs.YtgemencaeocmmaaW.PrintWords Go.Proofs.YtgemencaeocmmaaW.PrintLast Go.Proofs.YtgemencaeocmmaaW.PrintMore
set_option linter.unusedVariables false
theorem w64 {x : Int} (h0 : -9223372036854775808 ≤ x) (h1 : x ≤ 9223372036854775807) : wrap64 x = x := by unfold wrap64; omega
theorem mx_max (a b : Int) : mx a b = max a b := by unfold mx; split <;> omega
theorem takes_ev (o p : Int) : Ev (fun k => term_takes.f k o p) (takesI o p) := ⟨3, fun k hk => by obtain ⟨m, rfl⟩ : ∃ m, k = m + 3 := ⟨k - 3, by omega⟩; exact takes_now m o p⟩
theorem rdT_at (a : List Pt) (j : Nat) (h : j < a.length) : rd_T55 a (j : Int) = a[j] := by unfold rd_T55; rw [Int.toNat_natCast, List.getD_eq_getElem?_getD, List.getElem?_eq_getElem h]; rfl
theorem rdK_at (a : List Tk) (j : Nat) (h : j < a.length) : rd_T50 a (j : Int) = a[j] := by unfold rd_T50; rw [Int.toNat_natCast, List.getD_eq_getElem?_getD, List.getElem?_eq_getElem h]; rfl
def failed : List Pt × Bool × Bool × Int × Int × Bool := ([], false, false, 0, 0, false)
/-- What read tells of a run's end. -/
def res : Option (List Pt × List Pt) → List Pt × Bool × Bool × Int × Int × Bool
  | some (all, [p]) => (all, p.f0, p.f1, p.f2, p.f3, true)
  | _ => failed
theorem l1_step (k : Nat) (all st : List Pt) (n : Int) (l : List Tk) (L i : Int) (a : List Pt) (j : Nat) (path plain : Bool) (depth frm : Int) (hj : j < a.length) (ha : a.length ≤ 1000) (hd : -1000 ≤ a[j].f2 ∧ a[j].f2 ≤ 1000) :
    term_read.l1 (k + 1) all st n l L i a a.length j path plain depth frm = term_read.l1 k all st n l L i a a.length ((j + 1 : Nat) : Int) path (plain && a[j].f1) (max depth (a[j].f2 + 1)) (if j = 0 then a[j].f3 else frm) := by
  rw [term_read.l1, if_pos (by omega), if_pos (by omega), if_pos (by omega), rdT_at a j hj]
  have e1 : wrap64 ((j : Int) + 1) = ((j + 1 : Nat) : Int) := by rw [w64 (by omega) (by omega)]; omega
  have e2 : wrap64 (a[j].f2 + 1) = a[j].f2 + 1 := w64 (by omega) (by omega)
  rw [e1, e2, mx_max]
  cases plain
  · rw [if_neg (by decide)]
    by_cases h0 : j = 0
    · rw [if_pos (by omega), if_pos h0]; rfl
    · rw [if_neg (by omega), if_neg h0]; rfl
  · rw [if_pos rfl, Bool.true_and]
    by_cases h0 : j = 0
    · rw [if_pos (by omega), if_pos h0]
    · rw [if_neg (by omega), if_neg h0]
theorem l1_end (k : Nat) (all st : List Pt) (n : Nat) (l : List Tk) (L : Int) (i : Nat) (a : List Pt) (path plain : Bool) (depth frm : Int) (hn : n ≤ st.length) (hs : st.length ≤ 1000) (hal : all.length ≤ 1000) (hi : i ≤ 1000) :
    term_read.l1 (k + 1) all st n l L i a a.length (a.length : Nat) path plain depth frm = term_read.l0 k (all ++ [⟨path, plain, depth, frm⟩]) (st.take (st.length - n) ++ [⟨path, plain, depth, frm⟩]) l L ((i + 1 : Nat) : Int) := by
  have e1 : wrap64 ((st.length : Int) - n) = ((st.length - n : Nat) : Int) := by rw [w64 (by omega) (by omega)]; omega
  have e2 : wrap64 ((i : Int) + 1) = ((i + 1 : Nat) : Int) := by rw [w64 (by omega) (by omega)]; omega
  rw [term_read.l1, if_neg (by omega), e1, e2, if_pos (by omega), if_pos (by omega), Int.toNat_natCast]
  simp only [Option.bind_some]
  rw [if_pos (by rw [List.length_take]; omega), if_pos (by omega)]
/-- The inner loop makes the token's part. -/
theorem fold_ev {r : List Pt × Bool × Bool × Int × Int × Bool} (all st : List Pt) (n : Nat) (l : List Tk) (L : Int) (i : Nat) (o : Int) (hn : n ≤ st.length) (h2 : n ≤ 2) (hs : st.length ≤ 1000) (hal : all.length ≤ 1000) (hi : i ≤ 1000)
    (hd : ∀ p ∈ st, 1 ≤ p.f2 ∧ p.f2 ≤ 1000) (h : Ev (fun k => term_read.l0 k (all ++ [mk o i (st.drop (st.length - n))]) (st.take (st.length - n) ++ [mk o i (st.drop (st.length - n))]) l L ((i + 1 : Nat) : Int)) r) :
    Ev (fun k => term_read.l1 k all st n l L i (st.drop (st.length - n)) ((st.drop (st.length - n)).length : Nat) 0 (decide (o ≥ 19)) (plainB o) 1 i) r := by
  have hda : ∀ p ∈ st.drop (st.length - n), 1 ≤ p.f2 ∧ p.f2 ≤ 1000 := fun p hp => hd p (List.mem_of_mem_drop hp)
  have hla : (st.drop (st.length - n)).length = n := by rw [List.length_drop]; omega
  generalize hA : st.drop (st.length - n) = a at h hda hla
  have e0 : (0 : Int) = ((0 : Nat) : Int) := rfl
  match a, hla with
  | [], e =>
    rw [e0]
    refine Ev.step (fun k => l1_end k all st n l L i [] _ _ _ _ hn hs hal hi) ?_
    simpa [mk] using h
  | [x], e =>
    have hx := hda x (by simp)
    rw [e0]
    refine Ev.step (fun k => l1_step k all st n l L i [x] 0 _ _ _ _ (by simp) (by simp) (by show -1000 ≤ x.f2 ∧ x.f2 ≤ 1000; omega)) ?_
    refine Ev.step (fun k => l1_end k all st n l L i [x] _ _ _ _ hn hs hal hi) ?_
    simpa [mk] using h
  | [x, y], e =>
    have hx := hda x (by simp)
    have hy := hda y (by simp)
    rw [e0]
    refine Ev.step (fun k => l1_step k all st n l L i [x, y] 0 _ _ _ _ (by simp) (by simp) (by show -1000 ≤ x.f2 ∧ x.f2 ≤ 1000; omega)) ?_
    refine Ev.step (fun k => l1_step k all st n l L i [x, y] 1 _ _ _ _ (by simp) (by simp) (by show -1000 ≤ y.f2 ∧ y.f2 ≤ 1000; omega)) ?_
    refine Ev.step (fun k => l1_end k all st n l L i [x, y] _ _ _ _ hn hs hal hi) ?_
    simpa [mk, Bool.and_assoc] using h
  | x :: y :: z :: a, e => exfalso; simp only [List.length_cons] at e; omega
theorem j1_fail (k : Nat) (all st : List Pt) (x7 n : Int) (l : List Tk) (L i o p : Int) : term_read.j1 (k + 1) all st x7 n l L i true o p = some failed := by rw [term_read.j1, if_pos rfl]; rfl
theorem read_from (l : List Tk) (hl : l.length ≤ 512) (ts : List Tk) : ∀ (i : Nat) (all st : List Pt), i + ts.length = l.length → l.drop i = ts → all.length = i → st.length ≤ i → (∀ p ∈ st, 1 ≤ p.f2 ∧ p.f2 ≤ i) →
    Ev (fun k => term_read.l0 k all st l l.length i) (res (run i all st ts)) := by
  induction ts with
  | nil =>
    intro i all st hi hd ha hs hp
    rw [List.length_nil] at hi
    rw [run]
    refine Ev.step (f := fun _ => some (res (some (all, st)))) (fun k => ?_) (Ev.now _)
    rw [term_read.l0, if_neg (by omega)]
    match st with
    | [] => rfl
    | [p] => rfl
    | p :: q :: st =>
      rw [if_neg (by simp only [List.length_cons]; omega)]; rfl
  | cons t ts ih =>
    intro i all st hi hd ha hs hp
    rw [List.length_cons] at hi
    have hit : l[i] = t := by
      have h1 := List.drop_eq_getElem_cons (show i < l.length by omega)
      rw [hd] at h1
      exact ((List.cons.inj h1).1).symm
    have hd2 : l.drop (i + 1) = ts := by
      have h1 := List.drop_eq_getElem_cons (show i < l.length by omega)
      rw [hd] at h1
      exact ((List.cons.inj h1).2).symm
    refine Ev.step (fun k => by rw [term_read.l0, if_pos (by omega), if_pos (by omega), if_pos (by omega), rdK_at l i (by omega), hit]) ?_
    refine Ev.bind (takes_ev t.f0 t.f1) ?_
    rw [run]
    unfold step takesI
    cases hn : takesN t.f0 t.f1 with
    | none =>
      simp only [Option.bind_none]
      refine Ev.congr (f := fun k => term_read.j1 k all st i (-1) l l.length i true t.f0 t.f1) (fun k => by rw [if_pos (by decide)]) ?_
      exact Ev.step (fun k => j1_fail k _ _ _ _ _ _ _ _ _) (Ev.now _)
    | some n =>
      have hn2 := takesN_le hn
      simp only [Option.bind_some]
      refine Ev.congr (f := fun k => term_read.j1 k all st i n l l.length i (decide ((n : Int) > st.length)) t.f0 t.f1) (fun k => by rw [if_neg (by omega)]) ?_
      by_cases hle : n ≤ st.length
      · rw [if_pos hle]
        have e0 : decide ((n : Int) > st.length) = false := decide_eq_false (by omega)
        rw [e0]
        have e1 : wrap64 ((st.length : Int) - n) = ((st.length - n : Nat) : Int) := by rw [w64 (by omega) (by omega)]; omega
        have hla : (st.drop (st.length - n)).length = n := by rw [List.length_drop]; omega
        have hfit := fits_now hn hla
        have hpl := plain_now t.f0
        refine Ev.step (f := fun k => if fitsB t.f0 (st.drop (st.length - n)) = true then term_read.l1 k all st n l l.length i (st.drop (st.length - n)) ((st.drop (st.length - n)).length : Nat) 0 (decide (t.f0 ≥ 19)) (plainB t.f0) 1 i else some failed) (fun k => ?_) ?_
        · rw [term_read.j1, if_neg (by decide), e1, if_pos (by omega), if_pos (by omega), Int.toNat_natCast]
          simp only [Option.bind_some]
          rw [hfit, hpl]
          simp only [Option.bind_some]
          rfl
        · by_cases hf : fitsB t.f0 (st.drop (st.length - n)) = true
          · rw [if_pos hf]
            refine Ev.congr (f := fun k => term_read.l1 k all st n l l.length i (st.drop (st.length - n)) ((st.drop (st.length - n)).length : Nat) 0 (decide (t.f0 ≥ 19)) (plainB t.f0) 1 i) (fun k => by rw [if_pos hf]) ?_
            refine fold_ev all st n l l.length i t.f0 hle hn2 (by omega) (by omega) (by omega) (fun p hq => by have := hp p hq; omega) ?_
            simp only [Option.bind_some]
            refine ih (i + 1) _ _ (by omega) hd2 (by rw [List.length_append, ha]; rfl) (by rw [List.length_append, List.length_take, List.length_singleton]; omega) ?_
            intro p hq
            rcases List.mem_append.1 hq with hq | hq
            · have := hp p (List.mem_of_mem_take hq); omega
            · rw [List.mem_singleton.1 hq]
              refine ⟨(fold_max _ 1).1, fold_bound _ 1 _ (by omega) fun x hx => ?_⟩
              have := hp x (List.mem_of_mem_drop hx)
              omega
          · rw [if_neg hf]
            refine Ev.congr (f := fun k => some failed) (fun k => by rw [if_neg hf]) (Ev.now _)
      · rw [if_neg hle]
        have e0 : decide ((n : Int) > st.length) = true := decide_eq_true (by omega)
        rw [e0]
        exact Ev.step (fun k => j1_fail k _ _ _ _ _ _ _ _ _) (Ev.now _)
theorem read_ev (l : List Tk) (hl : l.length ≤ 512) : Ev (fun k => term_read.f k l) (res (run 0 [] [] l)) := read_from l hl l 0 [] [] (by omega) rfl rfl (Nat.le_refl _) (fun _ h => by cases h)
end Go.Proofs.Ytgemencaeocmmaa.PTerm
