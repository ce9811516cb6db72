/- The law on blocks: of any tokens the law's function as a Lean function answers true. Plain Lean. -/
import Derived.Test.YtgemencaeocmmaaTermTellsPure
import Derived.Test.YtgemencaeocmmaaPTermx15
namespace Go.Proofs.Ytgemencaeocmmaa.PTerm
open Go.RowKit Go.Proofs.YtgemencaeocmmaaW.PrintWords Go.Proofs.YtgemencaeocmmaaW.PrintLast Go.Proofs.YtgemencaeocmmaaW.PrintMore
set_option linter.unusedVariables false
set_option maxRecDepth 100000 in
theorem awake_now : rejoinderlaw03_awake.f 40 = some true := by decide +kernel
theorem awake_ev : Ev (fun k => rejoinderlaw03_awake.f k) true := Ev.of (fun k => rejoinderlaw03_awake.mono k) (k := 40) awake_now
theorem err_none {l : List Tk} (h : errN l = 0) : ∃ all p, run 0 [] [] l = some (all, [p]) ∧ p.f2 ≤ 64 ∧ eitherN l = (all, p.f0, p.f1, p.f2, p.f3, 0) := by
  unfold errN eitherN at h
  unfold eitherN
  cases hr : run 0 [] [] l with
  | none => rw [hr] at h; simp at h
  | some r =>
    rw [hr] at h
    obtain ⟨all, st⟩ := r
    match st with
    | [] => simp at h
    | p :: q :: st => simp at h
    | [p] =>
      have h' : (if p.f2 > 64 then (8 : Int) else 0) = 0 := h
      have h64 : ¬ p.f2 > 64 := by intro c; rw [if_pos c] at h'; cases h'
      refine ⟨all, p, rfl, by omega, ?_⟩
      show (all, p.f0, p.f1, p.f2, p.f3, if p.f2 > 64 then (8 : Int) else 0) = _
      rw [if_neg h64]
theorem err_some {l : List Tk} (h : ¬ errN l = 0) (path : Bool) : ¬ checkN l path = 0 := by
  unfold errN eitherN at h
  unfold checkN
  cases hr : run 0 [] [] l with
  | none => simp
  | some r =>
    rw [hr] at h
    obtain ⟨all, st⟩ := r
    match st with
    | [] => simp
    | p :: q :: st => simp
    | [p] =>
      have h' : ¬ (if p.f2 > 64 then (8 : Int) else 0) = 0 := h
      have h64 : p.f2 > 64 := by by_cases c : p.f2 > 64; exact c; rw [if_neg c] at h'; exact absurd rfl h'
      show ¬ (if p.f0 = path then (if p.f2 > 64 then (8 : Int) else 0) else 7) = 0
      rw [if_pos h64]
      split <;> decide
theorem check_of {l : List Tk} {all : List Pt} {p : Pt} (h : run 0 [] [] l = some (all, [p])) (h64 : p.f2 ≤ 64) (path : Bool) : checkN l path = if p.f0 = path then 0 else 7 := by
  unfold checkN
  rw [h]
  have h2 : ¬ p.f2 > 64 := by omega
  show (if p.f0 = path then (if p.f2 > 64 then (8 : Int) else 0) else 7) = _
  rw [if_neg h2]
/-- A block by itself. -/
theorem alone {d : Nat} {B : List Tk} {allB : List Pt} {q : Pt} (h : run d [] [] B = some (allB, [q])) : ∃ all0 q0, run 0 [] [] B = some (all0, [q0]) ∧ q0.f0 = q.f0 ∧ q0.f2 = q.f2 ∧ q0.f1 = q.f1 ∧ q0.f3 + d = q.f3 := by
  have hl := run_later d B 0 [] []
  rw [Nat.zero_add, List.map_nil] at hl
  rw [h] at hl
  cases h0 : run 0 [] [] B with
  | none => rw [h0] at hl; cases hl
  | some r =>
    rw [h0] at hl
    obtain ⟨all0, st0⟩ := r
    simp only [Option.map_some, Option.some.injEq, Prod.mk.injEq] at hl
    match st0, hl.2 with
    | [q0], e =>
      have e2 : q = later d q0 := by simpa using e
      exact ⟨all0, q0, rfl, by rw [e2]; rfl, by rw [e2]; rfl, by rw [e2]; rfl, by rw [e2]; rfl⟩
theorem last_part {l : List Tk} {all : List Pt} {p : Pt} (h : run 0 [] [] l = some (all, [p])) : 0 < l.length ∧ all.length = l.length ∧ all[l.length - 1]? = some p ∧ p.f3 = 0 := by
  have hn : l ≠ [] := by rintro rfl; rw [run] at h; cases h
  have hpos : 0 < l.length := List.length_pos_iff.2 hn
  obtain ⟨R, e, hR⟩ := run_all _ _ _ _ _ h
  rw [List.nil_append] at e
  simp only at e
  subst e
  refine ⟨hpos, hR, ?_, decomp_head (run_decomp h) (by simp) 0⟩
  have hsp : l = l.dropLast ++ [l.getLast hn] := (List.dropLast_concat_getLast hn).symm
  rw [hsp] at h
  obtain ⟨q0, q, h2, h3, e⟩ := run_snoc h
  simp only [Prod.mk.injEq] at e
  have hq : q.2 = p := by
    have := congrArg List.getLast? e.2
    simpa using this.symm
  obtain ⟨R0, e0, hR0⟩ := run_all _ _ _ _ _ h2
  rw [List.nil_append] at e0
  rw [e.1, ← hq]
  have hl0 : q0.1.length = l.length - 1 := by rw [e0, hR0, List.length_dropLast]
  rw [← hl0]
  simp
theorem rd_map (f : Pt → Int) (all : List Pt) (j : Nat) (q : Pt) (h : all[j]? = some q) : rd (all.map f) (j : Int) = f q := by
  unfold rd
  rw [Int.toNat_natCast, List.getD_eq_getElem?_getD, List.getElem?_map, h]; rfl
theorem deep_of {l : List Tk} {all : List Pt} {p : Pt} (h : run 0 [] [] l = some (all, [p])) {j : Nat} {q : Pt} (hq : all[j]? = some q) : q.f2 ≤ p.f2 := by
  obtain ⟨x, hx, hle⟩ := run_deep _ _ _ _ _ h (fun _ h => by cases h) q (List.mem_of_getElem? hq)
  rw [List.mem_singleton.1 hx] at hle
  exact hle
end Go.Proofs.Ytgemencaeocmmaa.PTerm
