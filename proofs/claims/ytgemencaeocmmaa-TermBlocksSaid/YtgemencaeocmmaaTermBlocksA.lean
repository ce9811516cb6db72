/- (second part) The law on blocks: of any tokens the law's function as a Lean function answers true. Plain Lean. -/
import Derived.Test.YtgemencaeocmmaaTermBlocksA1
import Derived.Test.YtgemencaeocmmaaPTermx16
namespace Go.Proofs.Ytgemencaeocmmaa.PTerm
open Go.RowKit Go.Proofs.YtgemencaeocmmaaW.PrintWords Go.Proofs.YtgemencaeocmmaaW.PrintLast Go.Proofs.YtgemencaeocmmaaW.PrintMore
set_option linter.unusedVariables false
/-- A block put into its own place. -/
theorem put_ev {l : List Tk} (hl : l.length ≤ 150) {all : List Pt} {p : Pt} (h : run 0 [] [] l = some (all, [p])) (h64 : p.f2 ≤ 64) {j : Nat} (hj : j < l.length) {t1 B : List Tk} {q : Pt} {allB : List Pt}
    (hs : l.take (j + 1) = t1 ++ B) (hq : all[j]? = some q) (hf : q.f3 = t1.length) (hB : run t1.length [] [] B = some (allB, [q])) (he : eitherN l = (all, p.f0, p.f1, p.f2, p.f3, 0)) :
    Ev (fun k => term_Put.f k l j B) (l, 0) := by
  have hlen := (last_part h).2.1
  have h1 : (t1 ++ B).length = j + 1 := by rw [← hs, List.length_take]; omega
  rw [List.length_append] at h1
  have hbl : B.length ≤ 150 := by omega
  obtain ⟨all0, q0, h0, hf0, hf2, _, _⟩ := alone hB
  have hdq := deep_of h hq
  have hcB : Aside0 (checkN B q.f0 = 0) := ⟨by rw [check_of h0 (by omega), if_pos hf0]⟩
  have hjl : l.take t1.length = t1 := by
    have : (l.take (j + 1)).take t1.length = t1 := by rw [hs, List.take_left]
    rwa [List.take_take, Nat.min_eq_left (by omega)] at this
  have hfl : [l.take t1.length, B, l.drop (j + 1)].flatten = l := by
    rw [hjl]
    show t1 ++ (B ++ (l.drop (j + 1) ++ [])) = l
    rw [List.append_nil, ← List.append_assoc, ← hs, List.take_append_drop]
  have hcl : Aside0 (checkN l p.f0 = 0) := ⟨by rw [check_of h h64, if_pos rfl]⟩
  have hev := either_ev l (by omega)
  rw [he] at hev
  refine Ev.bind hev ?_
  have hj0 : ¬ (j : Int) < 0 := by omega
  have hj1 : decide ((j : Int) ≥ (l.length : Int)) = false := decide_eq_false (by omega)
  refine Ev.congr (f := fun k => term_Put.j0 k l j B all false p.f0 p.f1 p.f2 p.f3) (fun k => ?_) ?_
  · dsimp only
    rw [if_pos rfl, if_neg hj0, hj1]
  · have hrd : rd_T55 all (j : Int) = q := by
      unfold rd_T55; rw [Int.toNat_natCast, List.getD_eq_getElem?_getD, hq]; rfl
    have e1 : Aside0 (wrap64 ((j : Int) + 1) = ((j + 1 : Nat) : Int)) := ⟨by rw [w64 (by omega) (by omega)]; omega⟩
    refine Ev.step (f := fun k => (term_check.f k B q.f0).bind fun t388 => if t388 = 0 then (term_whole.f k l p.f0).bind fun bt406 => some (bt406.1, bt406.2) else some (([] : List Tk), t388)) (fun k => ?_) ?_
    · rw [term_Put.j0, if_neg (by decide), if_pos (by omega), if_pos (by omega), hrd, hf, e1.out]
      congr 1
      funext t388
      by_cases c : t388 = 0
      · rw [if_pos c, if_pos c, if_pos (by omega), if_pos (by omega), if_pos (by omega), if_pos (by omega), Int.toNat_natCast, Int.toNat_natCast]
        rw [concat_now _ (by simp) (by rw [hfl]; omega), hfl]
        rfl
      · rw [if_neg c, if_neg c]
    · have hc := check_ev B q.f0 (by omega)
      rw [hcB.out] at hc
      refine Ev.bind hc ?_
      refine Ev.congr (f := fun k => (term_whole.f k l p.f0).bind fun bt406 => some (bt406.1, bt406.2)) (fun k => by rw [if_pos rfl]) ?_
      have hw := whole_ev l p.f0 (by omega)
      rw [hcl.out, if_pos rfl] at hw
      exact Ev.bind hw (Ev.now _)
/-- The inner walk over a block's own tokens. -/
theorem inner_ev {l : List Tk} (hl : l.length ≤ 150) (from_ depth : List Int) (hfl : from_.length = l.length) {j : Nat} (hj : j < l.length) (B : List Tk) (hp : Ev (fun k => term_Put.f k l j B) (l, 0))
    {r : Bool} (hnext : Ev (fun k => rejoinderlaw03_TermBlocks.l0 k l true from_ depth ((j + 1 : Nat) : Int)) r) (b : Nat) (hle : ∀ x : Nat, b ≤ x → x < j → ¬ rd from_ x < rd from_ j) :
    ∀ (n x : Nat), x + n = j → b ≤ x → Ev (fun k => rejoinderlaw03_TermBlocks.l1 k l true from_ depth j B x) r := by
  intro n
  induction n with
  | zero =>
    intro x hx hb
    have e1 : Aside0 (wrap64 ((j : Int) + 1) = ((j + 1 : Nat) : Int)) := ⟨by rw [w64 (by omega) (by omega)]; omega⟩
    refine Ev.step (fun k => by rw [rejoinderlaw03_TermBlocks.l1, if_neg (by omega)]) ?_
    refine Ev.bind hp ?_
    refine Ev.congr (f := fun k => (rejoinderkit_SameToks.f k l l).bind fun t523 => if t523 = true then rejoinderlaw03_TermBlocks.l0 k l true from_ depth ((j + 1 : Nat) : Int) else some false) (fun k => by dsimp only; rw [if_pos rfl, e1.out]) ?_
    refine Ev.bind (same_ev l (by omega)) ?_
    exact Ev.congr (fun k => by rw [if_pos rfl]) hnext
  | succ n ih =>
    intro x hx hb
    have e1 : Aside0 (wrap64 ((x : Int) + 1) = ((x + 1 : Nat) : Int)) := ⟨by rw [w64 (by omega) (by omega)]; omega⟩
    refine Ev.step (fun k => by rw [rejoinderlaw03_TermBlocks.l1, if_pos (by omega), if_pos (by omega), if_pos (by omega), if_pos (by omega), if_pos (by omega), if_neg (hle x hb (by omega)), e1.out]) ?_
    exact ih (x + 1) (by omega) (by omega)
theorem outer_ev {l : List Tk} (hl : l.length ≤ 150) {all : List Pt} {p : Pt} (h : run 0 [] [] l = some (all, [p])) (h64 : p.f2 ≤ 64) (he : eitherN l = (all, p.f0, p.f1, p.f2, p.f3, 0)) :
    ∀ (n j : Nat), j + n = l.length → Ev (fun k => rejoinderlaw03_TermBlocks.l0 k l true (all.map fun p => p.f3) (all.map fun p => p.f2) j) true := by
  obtain ⟨hpos, hlen, hlast, h30⟩ := last_part h
  intro n
  induction n with
  | zero => intro j hj; exact Ev.step (f := fun _ => some true) (fun k => by rw [rejoinderlaw03_TermBlocks.l0, if_neg (by omega)]) (Ev.now _)
  | succ n ih =>
    intro j hj
    obtain ⟨t1, B, q, allB, A, hs, hq, hf, hne, hB, hA, hAl⟩ := block_of h (show j < l.length by omega)
    simp only at hq hA
    have h1 : (t1 ++ B).length = j + 1 := by rw [← hs, List.length_take]; omega
    rw [List.length_append] at h1
    have hBp : 0 < B.length := List.length_pos_iff.2 hne
    have hfj : Aside0 (rd (all.map fun p => p.f3) (j : Int) = t1.length) := ⟨by rw [rd_map _ all j q hq, hf]⟩
    have hdj : Aside0 (rd (all.map fun p => p.f2) (j : Int) = q.f2) := ⟨rd_map _ all j q hq⟩
    have hdl : Aside0 (rd (all.map fun p => p.f2) ((l.length - 1 : Nat) : Int) = p.f2) := ⟨rd_map _ all _ p hlast⟩
    have hdeep := deep_of h hq
    have e1 : Aside0 (wrap64 ((l.length : Int) - 1) = ((l.length - 1 : Nat) : Int)) := ⟨by rw [w64 (by omega) (by omega)]; omega⟩
    have e2 : Aside0 (wrap64 ((j : Int) + 1) = ((j + 1 : Nat) : Int)) := ⟨by rw [w64 (by omega) (by omega)]; omega⟩
    have hml : (all.map fun p => p.f3).length = l.length := by rw [List.length_map, hlen]
    have hmd : (all.map fun p => p.f2).length = l.length := by rw [List.length_map, hlen]
    obtain ⟨all0, q0, h0, hf0, hf2, _, _⟩ := alone hB
    refine Ev.step (f := fun k => rejoinderlaw03_TermBlocks.j3 k l true (all.map fun p => p.f3) (all.map fun p => p.f2) j false) (fun k => ?_) ?_
    · rw [rejoinderlaw03_TermBlocks.l0, if_pos (by omega), if_pos (by omega), if_pos (by omega), hfj.out, if_neg (by omega), if_neg (by omega), if_pos (by omega), e1.out, if_pos (by omega), if_pos (by omega), hdj.out, hdl.out, decide_eq_false (by omega)]
    · refine Ev.step (f := fun k => (term_Check.f k B).bind fun t514 => (term_Path.f k B).bind fun t515 => if ((t514 == 0) == (t515 == 0)) = true then some false else rejoinderlaw03_TermBlocks.l1 k l true (all.map fun p => p.f3) (all.map fun p => p.f2) j B ((t1.length : Nat) : Int)) (fun k => ?_) ?_
      · rw [rejoinderlaw03_TermBlocks.j3, if_neg (by decide), if_pos (by omega), if_pos (by omega), hfj.out, e2.out, if_pos (by omega), if_pos (by omega), if_pos (by omega), Int.toNat_natCast, Int.toNat_natCast, hs, List.drop_left]
        rfl
      · refine Ev.bind (Check_ev B (by omega)) ?_
        refine Ev.bind (Path_ev B (by omega)) ?_
        have hx : ((checkN B false == 0) == (checkN B true == 0)) = false := by
          rw [check_of h0 (by omega), check_of h0 (by omega)]
          cases q0.f0 <;> rfl
        refine Ev.congr (f := fun k => rejoinderlaw03_TermBlocks.l1 k l true (all.map fun p => p.f3) (all.map fun p => p.f2) j B ((t1.length : Nat) : Int)) (fun k => by rw [hx, if_neg (by decide)]) ?_
        refine inner_ev hl _ _ hml (show j < l.length by omega) B (put_ev hl h h64 (by omega) hs hq hf hB he) (ih (j + 1) (by omega)) t1.length ?_ (j - t1.length) t1.length (by omega) (Nat.le_refl _)
        intro x hx1 hx2
        rw [hfj.out]
        have hxa : x < all.length := by omega
        have hax : all[x]? = some all[x] := List.getElem?_eq_getElem hxa
        rw [rd_map _ all x _ hax]
        have hmem : all[x] ∈ allB := by
          have h5 : (all.take (j + 1))[x]? = some all[x] := by rw [List.getElem?_take_of_lt (by omega), hax]
          rw [hA, List.getElem?_append_right (by omega)] at h5
          exact List.mem_of_getElem? h5
        have := run_from B t1.length [] [] _ t1.length hB (Int.le_refl _) (fun _ h => by cases h) (fun _ h => by cases h) _ hmem
        omega
theorem blocks_true (l : List Tk) : Ev (fun k => rejoinderlaw03_TermBlocks.f k l) true := by
  refine Ev.bind awake_ev ?_
  by_cases hl : (l.length : Int) > 150
  · exact Ev.congr (f := fun _ => some true) (fun k => by rw [if_pos hl]) (Ev.now _)
  · have hl' : l.length ≤ 150 := by omega
    refine Ev.congr (f := fun k => (term_Blocks.f k l).bind fun bt494 => (term_Depths.f k l).bind fun bt498 => if bt494.2 = 0 then rejoinderlaw03_TermBlocks.j0 k l true bt494.1 bt494.2 bt498.1 bt498.2 (bt498.2 != 0) else rejoinderlaw03_TermBlocks.j0 k l true bt494.1 bt494.2 bt498.1 bt498.2 true) (fun k => by rw [if_neg hl]) ?_
    refine Ev.bind (blocks_ev l (by omega)) ?_
    refine Ev.bind (depths_ev l (by omega)) ?_
    by_cases he : errN l = 0
    · rw [if_pos he, if_pos he]
      obtain ⟨all, p, h, h64, hei⟩ := err_none he
      rw [hei]
      obtain ⟨hpos, hlen, hlast, h30⟩ := last_part h
      have hml : (all.map fun p => p.f3).length = l.length := by rw [List.length_map, hlen]
      have hmd : (all.map fun p => p.f2).length = l.length := by rw [List.length_map, hlen]
      have e1 : Aside0 (wrap64 ((l.length : Int) - 1) = ((l.length - 1 : Nat) : Int)) := ⟨by rw [w64 (by omega) (by omega)]; omega⟩
      have hfl : Aside0 (rd (all.map fun p => p.f3) ((l.length - 1 : Nat) : Int) = 0) := ⟨by rw [rd_map _ all _ p hlast, h30]⟩
      refine Ev.congr (f := fun k => rejoinderlaw03_TermBlocks.j0 k l true (all.map fun p => p.f3) 0 (all.map fun p => p.f2) 0 false) (fun k => by dsimp only; rw [if_pos rfl]; rfl) ?_
      refine Ev.step (f := fun k => rejoinderlaw03_TermBlocks.j1 k l true (all.map fun p => p.f3) (all.map fun p => p.f2) false) (fun k => ?_) ?_
      · rw [rejoinderlaw03_TermBlocks.j0, if_neg (by decide), if_pos (by omega), if_pos (by omega), if_neg (by omega), e1.out, if_pos (by omega), if_pos (by omega), hfl.out]
        rfl
      · refine Ev.step (f := fun k => rejoinderlaw03_TermBlocks.l0 k l true (all.map fun p => p.f3) (all.map fun p => p.f2) 0) (fun k => by rw [rejoinderlaw03_TermBlocks.j1, if_neg (by decide)]) ?_
        exact outer_ev hl' h h64 hei l.length 0 (by omega)
    · rw [if_neg he, if_neg he]
      refine Ev.congr (f := fun k => rejoinderlaw03_TermBlocks.j0 k l true [] (errN l) [] (errN l) true) (fun k => by dsimp only; rw [if_neg he]) ?_
      refine Ev.step (f := fun k => (term_Check.f k l).bind fun t502 => if t502 = 0 then some false else (term_Path.f k l).bind fun t503 => some (t503 != 0)) (fun k => ?_) ?_
      · rw [rejoinderlaw03_TermBlocks.j0, if_pos rfl, if_pos rfl, if_pos rfl]
      · refine Ev.bind (Check_ev l (by omega)) ?_
        refine Ev.congr (f := fun k => (term_Path.f k l).bind fun t503 => some (t503 != 0)) (fun k => by rw [if_neg (err_some he false)]) ?_
        refine Ev.bind (Path_ev l (by omega)) ?_
        have := err_some he true
        refine Ev.congr (f := fun _ => some true) (fun k => by congr 1; simpa using this) (Ev.now _)
end Go.Proofs.Ytgemencaeocmmaa.PTerm
