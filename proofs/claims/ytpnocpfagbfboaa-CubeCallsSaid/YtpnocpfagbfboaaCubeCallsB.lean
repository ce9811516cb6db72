/- Of any number, any two cubes and any letter the law's function answers true. Conditions: none but that the cubes' and the letter's numbers are bytes. -/
import Derived.Test.YtpnocpfagbfboaaCubeCallsA
namespace Go.Proofs.Ytpnocpfagbfboaa.CPCubeCalls
open Go.RowKit Go.Proofs.Ytpnocpfagbfboaa.PCubeCalls Go.Proofs.YtpnocpfagbfboaaW.PrintWords Go.Proofs.YtpnocpfagbfboaaW.PrintLast Go.Proofs.YtpnocpfagbfboaaW.PrintMore Go.Proofs.Ytpnocpfagbfboaa.CubeNat Go.Proofs.Ytpnocpfagbfboaa.RPCubeCalls

theorem same_loop (l m : List S24) (e : l = m) (hn : l.length ≤ 100000) (d : Nat) : ∀ i : Nat, i + d = l.length → Ev (fun k => rejoinderlaw02_Same.l0 k l m i) true := by
  subst e
  induction d with
  | zero =>
    intro i hi
    exact Ev.step (f := fun _ => some true) (fun k => by simp only [rejoinderlaw02_Same.l0]; rw [if_neg (by omega)]) (Ev.now _)
  | succ d ih =>
    intro i hi
    refine Ev.step (fun k => ?_) (ih (i + 1) (by omega))
    simp only [rejoinderlaw02_Same.l0]
    rw [if_pos (by omega), if_pos (by omega), if_pos (by omega), if_neg (by simp), wrap_inc (by omega)]
theorem same_ev (l : List S24) (hn : l.length ≤ 100000) : Ev (fun k => rejoinderlaw02_Same.f k l l) true := by
  refine Ev.congr (f := fun k => rejoinderlaw02_Same.l0 k l l 0) (fun k => ?_) (same_loop l l rfl hn l.length 0 (by omega))
  unfold rejoinderlaw02_Same.f
  rw [if_pos rfl]
theorem minusL_len (c' v' : Nat) (d : Nat) : ∀ (out : List S24) (c v i : Nat), (minusL out c v c' v' i d).length ≤ out.length + d := by
  induction d with
  | zero => intro out c v i; exact Nat.le_refl _
  | succ d ih =>
    intro out c v i
    unfold minusL
    split
    · refine Nat.le_trans (ih _ _ _ _) ?_
      simp; omega
    · exact Nat.le_trans (ih _ _ _ _) (by omega)
theorem minusA_len (c v c' v' : Nat) : (minusA c v c' v').length ≤ 8 := by
  unfold minusA
  split
  · split
    · simpa using minusL_len c' v' 8 [] c v 0
    · simp
  · simp
theorem last_loop (q w : List S24) (e : q = w) (hq : q.length ≤ 100000) (d : Nat) : ∀ (p : List S24) (i : Nat), p.length ≤ 100000 → i + d = p.length → Ev (fun k => rejoinderlaw02_CubeCalls.l0 k p q w i) true := by
  subst e
  induction d with
  | zero =>
    intro p i hp hi
    refine Ev.step (f := fun k => (rejoinderlaw02_Same.f k q q).bind fun t208 => (some t208)) (fun k => by simp only [rejoinderlaw02_CubeCalls.l0]; rw [if_neg (by omega)]) ?_
    exact Ev.bind (f := fun _ t208 => some t208) (same_ev q hq) (Ev.now _)
  | succ d ih =>
    intro p i hp hi
    refine Ev.step (f := fun k => rejoinderlaw02_CubeCalls.l0 k (p.set (i : Int).toNat ⟨7, 99⟩) q q ((i + 1 : Nat) : Int)) (fun k => ?_) (ih _ (i + 1) (by simpa using hp) (by simp; omega))
    simp only [rejoinderlaw02_CubeCalls.l0]
    rw [if_pos (by omega), if_pos (by omega), wrap_inc (by omega)]
/-- The law. -/
theorem law (a : Int) (c v c' v' l : Nat) (hc : c < 256) (hv : v < 256) (hc' : c' < 256) (hv' : v' < 256) (hl : l < 256) : ∃ k, rejoinderlaw02_CubeCalls.f k a c v c' v' l = some true := by
  apply Ev.rounds
  have hm := minusA_len c v c' v'
  generalize hgm : minusA c v c' v' = M at hm
  have pm := pminus c v c' v' hc hv hc' hv'
  have rm := rminus c v c' v' hc hv hc' hv'
  rw [hgm] at pm rm
  have hj : Ev (fun k => rejoinderlaw02_CubeCalls.j0 k false c v c' v') true := by
    refine Ev.step (f := fun k => (cube_Meet.f c v c' v').bind fun bt188 => ((rejoinderref02_Meet.f k c v c' v').bind fun bt192 => ((cube_Minus.f k c v c' v').bind fun t196 => ((cube_Minus.f k c v c' v').bind fun t199 => ((rejoinderref02_Minus.f k c v c' v').bind fun t202 => (if (!(bt188.1 == bt192.1) || (!(bt188.2.1 == bt192.2.1))) = true then (rejoinderlaw02_CubeCalls.j1 k t196 t199 t202 true) else (if (bt188.2.2 != bt192.2.2) = true then (rejoinderlaw02_CubeCalls.j1 k t196 t199 t202 true) else ((rejoinderlaw02_Same.f k t196 t202).bind fun t205 => (if t205 = true then ((rejoinderlaw02_Same.f k t199 t202).bind fun t206 => (rejoinderlaw02_CubeCalls.j1 k t196 t199 t202 (!t206))) else (rejoinderlaw02_CubeCalls.j1 k t196 t199 t202 true)))))))))) (fun k => by simp [rejoinderlaw02_CubeCalls.j0]) ?_
    rw [pmeet c v c' v' hc hv hc' hv']
    have rme := rmeet c v c' v' hc hv hc' hv'
    generalize (if MeetB c v c' v' = true then (((c ||| c' : Nat) : Int), ((v ||| v' : Nat) : Int), true) else (0, 0, false)) = R at rme
    simp only [Option.bind_some]
    refine Ev.bind (f := fun k bt192 => ((cube_Minus.f k c v c' v').bind fun t196 => ((cube_Minus.f k c v c' v').bind fun t199 => ((rejoinderref02_Minus.f k c v c' v').bind fun t202 => (if (!(R.1 == bt192.1) || (!(R.2.1 == bt192.2.1))) = true then (rejoinderlaw02_CubeCalls.j1 k t196 t199 t202 true) else (if (R.2.2 != bt192.2.2) = true then (rejoinderlaw02_CubeCalls.j1 k t196 t199 t202 true) else ((rejoinderlaw02_Same.f k t196 t202).bind fun t205 => (if t205 = true then ((rejoinderlaw02_Same.f k t199 t202).bind fun t206 => (rejoinderlaw02_CubeCalls.j1 k t196 t199 t202 (!t206))) else (rejoinderlaw02_CubeCalls.j1 k t196 t199 t202 true))))))))) rme ?_
    refine Ev.bind (f := fun k t196 => ((cube_Minus.f k c v c' v').bind fun t199 => ((rejoinderref02_Minus.f k c v c' v').bind fun t202 => (if (!(R.1 == R.1) || (!(R.2.1 == R.2.1))) = true then (rejoinderlaw02_CubeCalls.j1 k t196 t199 t202 true) else (if (R.2.2 != R.2.2) = true then (rejoinderlaw02_CubeCalls.j1 k t196 t199 t202 true) else ((rejoinderlaw02_Same.f k t196 t202).bind fun t205 => (if t205 = true then ((rejoinderlaw02_Same.f k t199 t202).bind fun t206 => (rejoinderlaw02_CubeCalls.j1 k t196 t199 t202 (!t206))) else (rejoinderlaw02_CubeCalls.j1 k t196 t199 t202 true)))))))) pm ?_
    refine Ev.bind (f := fun k t199 => ((rejoinderref02_Minus.f k c v c' v').bind fun t202 => (if (!(R.1 == R.1) || (!(R.2.1 == R.2.1))) = true then (rejoinderlaw02_CubeCalls.j1 k M t199 t202 true) else (if (R.2.2 != R.2.2) = true then (rejoinderlaw02_CubeCalls.j1 k M t199 t202 true) else ((rejoinderlaw02_Same.f k M t202).bind fun t205 => (if t205 = true then ((rejoinderlaw02_Same.f k t199 t202).bind fun t206 => (rejoinderlaw02_CubeCalls.j1 k M t199 t202 (!t206))) else (rejoinderlaw02_CubeCalls.j1 k M t199 t202 true))))))) pm ?_
    refine Ev.bind (f := fun k t202 => (if (!(R.1 == R.1) || (!(R.2.1 == R.2.1))) = true then (rejoinderlaw02_CubeCalls.j1 k M M t202 true) else (if (R.2.2 != R.2.2) = true then (rejoinderlaw02_CubeCalls.j1 k M M t202 true) else ((rejoinderlaw02_Same.f k M t202).bind fun t205 => (if t205 = true then ((rejoinderlaw02_Same.f k M t202).bind fun t206 => (rejoinderlaw02_CubeCalls.j1 k M M t202 (!t206))) else (rejoinderlaw02_CubeCalls.j1 k M M t202 true)))))) rm ?_
    refine Ev.congr (f := fun k => (rejoinderlaw02_Same.f k M M).bind fun t205 => (if t205 = true then ((rejoinderlaw02_Same.f k M M).bind fun t206 => (rejoinderlaw02_CubeCalls.j1 k M M M (!t206))) else (rejoinderlaw02_CubeCalls.j1 k M M M true))) (fun k => by simp) ?_
    refine Ev.bind (f := fun k t205 => (if t205 = true then ((rejoinderlaw02_Same.f k M M).bind fun t206 => (rejoinderlaw02_CubeCalls.j1 k M M M (!t206))) else (rejoinderlaw02_CubeCalls.j1 k M M M true))) (same_ev M (by omega)) ?_
    refine Ev.congr (f := fun k => ((rejoinderlaw02_Same.f k M M).bind fun t206 => (rejoinderlaw02_CubeCalls.j1 k M M M (!t206)))) (fun k => by simp) ?_
    refine Ev.bind (f := fun k t206 => (rejoinderlaw02_CubeCalls.j1 k M M M (!t206))) (same_ev M (by omega)) ?_
    exact Ev.step (f := fun k => rejoinderlaw02_CubeCalls.l0 k M M M 0) (fun k => by simp [rejoinderlaw02_CubeCalls.j1]) (last_loop M M rfl (by omega) M.length M 0 (by omega) (by omega))
  refine Ev.congr (f := fun k => (cube_Check.f a c v).bind fun t182 => ((rejoinderref02_Check.f k a c v).bind fun t183 => (if t182 = t183 then ((cube_Has.f c v l).bind fun t184 => ((rejoinderref02_Has.f k c v l).bind fun t185 => (if (t184 != t185) = true then (rejoinderlaw02_CubeCalls.j0 k true c v c' v') else ((cube_Within.f c v c' v').bind fun t186 => ((rejoinderref02_Within.f k c v c' v').bind fun t187 => (rejoinderlaw02_CubeCalls.j0 k (t186 != t187) c v c' v')))))) else (rejoinderlaw02_CubeCalls.j0 k true c v c' v')))) (fun k => rfl) ?_
  rw [pcheck a c v hc hv, phas c v l hc hv hl, pwithin c v c' v' hc hv hc' hv']
  simp only [Option.bind_some]
  refine Ev.bind (f := fun k t183 => (if checkI a c v = t183 then ((rejoinderref02_Has.f k c v l).bind fun t185 => (if (HasB c v l != t185) = true then (rejoinderlaw02_CubeCalls.j0 k true c v c' v') else ((rejoinderref02_Within.f k c v c' v').bind fun t187 => (rejoinderlaw02_CubeCalls.j0 k (WithinB c v c' v' != t187) c v c' v')))) else (rejoinderlaw02_CubeCalls.j0 k true c v c' v'))) (rcheck a c v hc hv) ?_
  refine Ev.congr (f := fun k => (rejoinderref02_Has.f k c v l).bind fun t185 => (if (HasB c v l != t185) = true then (rejoinderlaw02_CubeCalls.j0 k true c v c' v') else ((rejoinderref02_Within.f k c v c' v').bind fun t187 => (rejoinderlaw02_CubeCalls.j0 k (WithinB c v c' v' != t187) c v c' v')))) (fun k => by rw [if_pos rfl]) ?_
  refine Ev.bind (f := fun k t185 => (if (HasB c v l != t185) = true then (rejoinderlaw02_CubeCalls.j0 k true c v c' v') else ((rejoinderref02_Within.f k c v c' v').bind fun t187 => (rejoinderlaw02_CubeCalls.j0 k (WithinB c v c' v' != t187) c v c' v')))) (has_ev c v l hc hv hl) ?_
  refine Ev.congr (f := fun k => (rejoinderref02_Within.f k c v c' v').bind fun t187 => (rejoinderlaw02_CubeCalls.j0 k (WithinB c v c' v' != t187) c v c' v')) (fun k => by simp) ?_
  refine Ev.bind (f := fun k t187 => (rejoinderlaw02_CubeCalls.j0 k (WithinB c v c' v' != t187) c v c' v')) (rwithin c v c' v' hc hv hc' hv') ?_
  simpa using hj
end Go.Proofs.Ytpnocpfagbfboaa.CPCubeCalls
