/- Texts of this work merged into one file, what the law does not need left out: RefTakes. Conditions stand in each law. -/
import Derived.Test.YtaogoabnidbbpaaGreatDoorSt17
namespace Go.Proofs.YtaogoabnidbbpaaGreatDoor.PText
open Go.RowKit Go.Proofs.YtaogoabnidbbpaaGreatDoorW.PrintWords Go.Proofs.YtaogoabnidbbpaaGreatDoorW.PrintLast Go.Proofs.YtaogoabnidbbpaaGreatDoorW.PrintMore
set_option linter.unusedVariables false
set_option linter.unusedSimpArgs false
/-- How many parts a token takes. -/
def rejoinderref03_Takes.f (o p : Int) : Option Int := if 0 ≤ o ∧ 0 ≤ p then some (Trm.takesI o p) else none
set_option maxHeartbeats 8000000 in
theorem rejoinderref03_Takes.calls (o p r : Int) (w : World) (h : rejoinderref03_Takes.f o p = some r) :
  Calls Tryz.prog 32 #[.agg #[.int .u8 o, .int .u8 p]] w fun e w' => e = .returned (.int .i64 r) ∧ Below w.heap.size w w' := by
 unfold rejoinderref03_Takes.f at h
 split at h
 rotate_left
 ·cases h
 rename_i ho
 obtain rfl := Option.some.inj h
 clear h
 by_cases h2 : o = 2
 ·subst h2
  by_cases hp : 7 < p
  ·have e : Trm.takesI 2 p = -1 := by rw [Trm.takesI_eq, if_pos (by omega)]
   rw [e]
   have c : decide (7 < p) = true := decide_eq_true hp
   clear ho hp e
   go_enter Tryz.func32, Tryz.ntmps32
   go_wp2
   go_ret
   exact ⟨rfl, by repeat (first | exact Below.refl _ _ | apply below_alloc | apply pw_below_drewN | apply below_drew1)⟩
  ·have e : Trm.takesI 2 p = 0 := by rw [Trm.takesI_eq, if_neg (by omega)]; rfl
   rw [e]
   have c : decide (7 < p) = false := decide_eq_false hp
   clear ho hp e
   go_enter Tryz.func32, Tryz.ntmps32
   go_wp2
   go_ret
   exact ⟨rfl, by repeat (first | exact Below.refl _ _ | apply below_alloc | apply pw_below_drewN | apply below_drew1)⟩
 have hc : o = 0 ∨ o = 1 ∨ o = 3 ∨ o = 4 ∨ o = 5 ∨ o = 6 ∨ o = 7 ∨ o = 8 ∨ o = 9 ∨ o = 10 ∨ o = 11 ∨ o = 12 ∨ o = 13 ∨ o = 14 ∨ o = 15 ∨ o = 16 ∨ o = 17 ∨ o = 18 ∨ o = 19 ∨ o = 20 ∨ o = 21 ∨ o = 22 ∨ o = 23 ∨ 23 < o := by omega
 rcases hc with rfl | rfl | rfl | rfl | rfl | rfl | rfl | rfl | rfl | rfl | rfl | rfl | rfl | rfl | rfl | rfl | rfl | rfl | rfl | rfl | rfl | rfl | rfl | hc
 rotate_right
 ·have e : Trm.takesI o p = -1 := by rw [Trm.takesI_eq]; (repeat' split) <;> first | rfl | omega
  rw [e]
  have c : decide (23 < o) = true := decide_eq_true hc
  clear ho hc e h2
  go_enter Tryz.func32, Tryz.ntmps32
  go_wp2
  go_ret
  exact ⟨rfl, by repeat (first | exact Below.refl _ _ | apply below_alloc | apply pw_below_drewN | apply below_drew1)⟩
 all_goals
  clear h2
  by_cases hp : p = 0
  ·subst hp
   go_enter Tryz.func32, Tryz.ntmps32
   go_wp2
   go_ret
   exact ⟨rfl, by repeat (first | exact Below.refl _ _ | apply below_alloc | apply pw_below_drewN | apply below_drew1)⟩
  ·rw [Trm.takesI_eq, if_pos (by omega)]
   replace hp : (p == 0) = false := beq_eq_false_iff_ne.2 hp
   have hq : (p != 0) = true := by simp [bne, hp]
   go_enter Tryz.func32, Tryz.ntmps32
   go_wp2
   go_ret
   exact ⟨rfl, by repeat (first | exact Below.refl _ _ | apply below_alloc | apply pw_below_drewN | apply below_drew1)⟩
end Go.Proofs.YtaogoabnidbbpaaGreatDoor.PText
