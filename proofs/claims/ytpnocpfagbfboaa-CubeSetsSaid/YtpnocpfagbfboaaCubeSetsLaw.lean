/- The law that cubes are sets holds of every two cubes: what both have is had by both, what is left is had once. -/
import Derived.Test.YtpnocpfagbfboaaRows
import Derived.Test.YtpnocpfagbfboaaCubeSetsA
import Derived.WalkKit
import Derived.ProofKit
import Derived.OpenShut
import Derived.ShutString
import Derived.ChangeOld
import Derived.Below
import Derived.SizedLaws
import Derived.Lib.SmallJoins
namespace Go.Proofs.Ytpnocpfagbfboaa.cubeSets
open Go.ChangeShapes Go.WideShapes Go.ChangeAt Go.RowKit Go.Joins
theorem own : ownKnob Try.prog.godebug = none := by kernel_rfl
theorem cellsC : Try.prog.cellsOf 24 = 2 := by kernel_rfl
theorem u8 {a : Int} (h : (Lit.int .u8 a).wf = true) : ∃ n : Nat, a = n ∧ n < 256 := by
  have := Go.bounds_u8 h
  exact ⟨a.toNat, by omega, by omega⟩
set_option maxRecDepth 100000 in
theorem lifted (os : Os) (started : os.Started) (H : Type) (enc : TypeId × Value → H) :
    ReturnsInHanded {} Try.checked os 4 .any (Rows.cubeSetsSpec.pre6 enc Try.prog Try.f4 Rows.cubeSetsRow.domain false) (Rows.cubeSetsSpec.post enc Try.prog Try.f4 false true false false) := by
  refine returnsInHanded_of_change_sized (C := Try.checked) own started (by kernel_rfl) Try.func4
    (ChangeSpec.witness6 (enc := enc) (C := Try.checked) false ⟨#[], #[.agg #[.int .u8 0, .int .u8 0], .agg #[.int .u8 0, .int .u8 0]], []⟩ 8 (by kernel_rfl) (by kernel_rfl) (by kernel_rfl) (by kernel_rfl)) ?_
  intro W base args ds gs before hval0 hW _ _ _
  have hval : ∀ (j : Nat) t v, Try.f4.params[j]? = some t → args[j]? = some v → Value.okWide Try.prog W .any base t v := hval0
  have hW' := hW
  obtain ⟨p, q, hA0, hV, rfl, _, _⟩ := hW
  have hA : DataW.TrodAll enc Try.prog W 0 (fun _ => true) true Try.f4.params.toList args.toList ds p := hA0
  rw [Try.params4] at hA hval
  obtain ⟨v1, vs1, d1, ds1, p1, q1, hargs, rfl, rfl, h1, r1⟩ := trodAll_cons hA
  obtain ⟨v2, vs2, d2, ds2, p2, q2, rfl, rfl, rfl, h2, r2⟩ := trodAll_cons r1
  obtain ⟨rfl, rfl, rfl⟩ := trodAll_nil r2
  obtain rfl : args = #[v1, v2] := by cases args; simp_all
  obtain ⟨rfl, rfl⟩ := trodVars_none hV
  obtain ⟨c0, c1, y0, y1, m, rfl, rfl, rfl, hy0, hy1⟩ := open_agg2 Try.underlying24 (by kernel_rfl) cellsC (hval 0 24 v1 rfl rfl) h1
  obtain ⟨a, e0, rfl, wa⟩ := DataW.trod_int Try.underlying22 hy0
  obtain ⟨b, e1, rfl, wb⟩ := DataW.trod_int Try.underlying22 hy1
  simp at e0 e1
  subst e0 e1
  obtain ⟨c2, c3, y2, y3, m2, rfl, rfl, rfl, hy2, hy3⟩ := open_agg2 Try.underlying24 (by kernel_rfl) cellsC (hval 1 24 v2 rfl rfl) h2
  obtain ⟨a', e2, rfl, wa'⟩ := DataW.trod_int Try.underlying22 hy2
  obtain ⟨b', e3, rfl, wb'⟩ := DataW.trod_int Try.underlying22 hy3
  simp at e2 e3
  subst e2 e3
  clear hA0 hval0
  have structReads : ∀ (W' : World) (sp : Nat → Bool) (a b : Int), (Lit.int .u8 a).wf = true → (Lit.int .u8 b).wf = true → DataW.Trod enc Try.prog W' 0 sp true 24 (.agg #[.int .u8 a, .int .u8 b]) (.agg [.lit (.int .u8 a), .lit (.int .u8 b)]) [] := fun W' sp a b wa wb =>
    shut_agg2 (y0 := (.lit (.int .u8 a), [])) (y1 := (.lit (.int .u8 b), [])) Try.underlying24 (by kernel_rfl) cellsC ⟨1, by simp [DataW.trod, Try.underlying22, wa]⟩ ⟨1, by simp [DataW.trod, Try.underlying22, wb]⟩
  obtain ⟨na, rfl, ha⟩ := u8 wa
  obtain ⟨nb, rfl, hb⟩ := u8 wb
  obtain ⟨na', rfl, ha'⟩ := u8 wa'
  obtain ⟨nb', rfl, hb'⟩ := u8 wb'
  obtain ⟨k, hk⟩ := CPCubeSets.law na nb na' nb' ha hb ha' hb'
  refine (PCubeSets.rejoinderlaw02_CubeSets.calls k na nb na' nb' true W hk).mono fun e W' ⟨he, bel⟩ => ?_
  subst he
  exact ⟨_, rfl, _, _, _, [], _, [], hW', trodAll_mk1 (shut_bool Try.underlying4 _), (trodAll_cons_mk (structReads _ _ _ _ wa wb) (trodAll_cons_mk (structReads _ _ _ _ wa' wb') trodAll_mk0)), rfl, bel.frame _, fun h => by cases h⟩
theorem over : Rows.cubeSetsRow.holds Try.pinned (OpenSpec.ofChange Rows.cubeSetsSpec) :=
  OpenClaim.holds_of_wide 4 Try.f4 rfl rfl rfl rfl rfl rfl rfl ⟨rfl, rfl, rfl, rfl, rfl⟩ rfl rfl rfl rfl rfl (by kernel_rfl) Try.func4 (by kernel_rfl)
    (of_decide_eq_true (by kernel_rfl)) (by unfold Func.isWrapper; first | (rw [if_pos (by decide +kernel)]; kernel_rfl) | (rw [if_neg (by decide +kernel)]; exact ⟨rfl, rfl⟩))
    (fun os started H enc _ => lifted os started H enc)
theorem proved : Rows.CubeSetsSaid := over
#print axioms proved
end Go.Proofs.Ytpnocpfagbfboaa.cubeSets
