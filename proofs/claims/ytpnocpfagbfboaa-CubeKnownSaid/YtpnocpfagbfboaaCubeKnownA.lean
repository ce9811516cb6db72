/- The chapter's examples on cubes are answered as it says (a closed statement). -/
import Derived.Test.YtpnocpfagbfboaaPCubex4
import Derived.Test.YtpnocpfagbfboaaCubeCov
import Derived.Test.YtpnocpfagbfboaaAid
namespace Go.Proofs.Ytpnocpfagbfboaa.PCube
open Go.RowKit Go.Proofs.YtpnocpfagbfboaaW.PrintWords Go.Proofs.YtpnocpfagbfboaaW.PrintLast Go.Proofs.YtpnocpfagbfboaaW.PrintMore Go.Proofs.Ytpnocpfagbfboaa.CubeNat Go.Proofs.YtpnocpfagbfboaaW.Aid
theorem ksl : rejoinderkit_SameLetters.f 10 [1, 3] [1, 3] = some true := by decide +kernel
theorem ksame2 : rejoinderlaw02_Same.f 10 [⟨3, 3⟩, ⟨7, 1⟩] [⟨3, 3⟩, ⟨7, 1⟩] = some true := by decide +kernel
theorem ksame3 : rejoinderlaw02_Same.f 10 [⟨3, 2⟩, ⟨7, 1⟩, ⟨7, 3⟩] [⟨3, 2⟩, ⟨7, 1⟩, ⟨7, 3⟩] = some true := by decide +kernel
theorem kparse1 : cube_Parse.f 10 3 ⟨#[49, 45, 48]⟩ = some (5, 1, 0) := by decide +kernel
theorem kletters : cube_Letters.f 20 3 5 1 = some ([1, 3], 0) := by decide +kernel
theorem kcount : cube_Count.f 3 5 1 = some (2, 0) := by decide +kernel
theorem kmeet1 : cube_Meet.f 1 1 2 0 = some (3, 1, true) := by decide +kernel
theorem kmeet2 : cube_Meet.f 1 1 1 0 = some (0, 0, false) := by decide +kernel
theorem kminus : cube_Minus.f 20 1 1 6 4 = some [⟨3, 3⟩, ⟨7, 1⟩] := by rfl
theorem kprint : cube_Print.f 10 3 1 2 = some (⟨#[]⟩, 120) := by decide +kernel
theorem kparse2 : cube_Parse.f 10 3 ⟨#[49, 45]⟩ = some (0, 0, 120) := by decide +kernel
theorem kparse3 : cube_Parse.f 10 3 ⟨#[49, 45, 50]⟩ = some (0, 0, 120) := by decide +kernel
theorem khas1 : cube_Has.f 5 1 1 = some true := by decide +kernel
theorem khas2 : cube_Has.f 5 1 3 = some true := by decide +kernel
theorem khas3 : cube_Has.f 5 1 5 = some false := by decide +kernel
theorem kwith1 : cube_Within.f 3 1 1 1 = some true := by decide +kernel
theorem kwith2 : cube_Within.f 1 1 3 1 = some false := by decide +kernel
theorem kminus2 : cube_Minus.f 20 1 1 1 1 = some [] := by rfl
theorem kcheck : cube_Check.f 9 1 1 = some 2 := by decide +kernel
theorem kcover : cube_Cover.f 3 [1, 3, 2, 6] = some ([⟨3, 2⟩, ⟨7, 1⟩, ⟨7, 3⟩], 0) := by rfl
set_option maxRecDepth 100000 in
set_option maxHeartbeats 4000000 in
theorem known (w : World) : Calls Try.prog 8 #[] w fun e w' => e = .returned (.bool true) ∧ Below w.heap.size w w' := by
  go_enter Try.func8, Try.ntmps8
  have HB := Aside0.mk (Below.refl w.heap.size w)
  go_wp2_with fail
  refine (cube_Parse.calls 10 3 _ 5 1 0 _ kparse1).mono ?_
  rintro e w1 ⟨rfl, hb⟩
  have nb_ := Aside0.mk (below_step (by repeat (first | (with_reducible first | exact HB.out | apply below_alloc | apply pw_below_drewN | apply below_drew1) | exact HB.out)) hb)
  clear hb
  clear HB 
  have HB := nb_
  clear nb_  
  go_wp2_with fail
  refine (cube_Letters.calls 20 3 5 1 [1, 3] 0 _ kletters).mono ?_
  rintro e w2 ⟨v2, rfl, hr, hb⟩
  have n0_ := Aside0.mk (blk_below (g := w1.heap.size) (o := .cells #[.int .u8 5, .int .u8 1] 24 (0, 0)) (by first | exact blk_new _ _ | exact blk_alloc (blk_new _ _) _ | exact blk_new1 _ _ _ | exact blk_alloc (blk_alloc (blk_new _ _) _) _ | exact blk_alloc (blk_new1 _ _ _) _) hb)
  have nb_ := Aside0.mk (below_step (by repeat (first | (with_reducible first | exact HB.out | apply below_alloc | apply pw_below_drewN | apply below_drew1) | exact HB.out)) hb)
  have rRL_ := Aside0.mk (Kd.R_lower hr (below_size (by repeat (first | (with_reducible first | exact HB.out | apply below_alloc | apply pw_below_drewN | apply below_drew1) | exact HB.out))))
  clear hr hb
  clear HB 
  have BC := n0_
  have HB := nb_
  have RL := rRL_
  clear nb_ n0_ rRL_
  have hzBC_0 : w2.cell? ⟨w1.heap.size, 0, none⟩ = some (.int .u8 5) := (blk_cell BC.out 0).trans rfl
  have hzBC_1 : w2.cell? ⟨w1.heap.size, 1, none⟩ = some (.int .u8 1) := (blk_cell BC.out 1).trans rfl
  have hsBC := blk_lt BC.out
  have hnBC := Nat.ne_of_lt (blk_lt BC.out)
  go_wp2_with fail
  clear hzBC_0 hzBC_1 hsBC hnBC
  refine (cube_Count.calls 3 5 1 2 0 _ kcount).mono ?_
  rintro e w3 ⟨rfl, hb⟩
  have n0_ := Aside0.mk (blk_below (g := w1.heap.size) (o := .cells #[.int .u8 5, .int .u8 1] 24 (0, 0)) (by (with_reducible repeat (first | refine blk_drewN ?_ _ | refine blk_drew ?_ | refine blk_alloc ?_ _)); exact BC.out) hb)
  have n1_ := Aside0.mk (Kd.R_below (by (with_reducible repeat (first | apply Kd.R_alloc | apply Kd.R_drewN | apply Kd.R_drew)); exact RL.out) hb)
  have nb_ := Aside0.mk (below_step (by repeat (first | (with_reducible first | exact HB.out | apply below_alloc | apply pw_below_drewN | apply below_drew1) | exact HB.out)) hb)
  clear hb
  clear HB BC RL
  have BC := n0_
  have RL := n1_
  have HB := nb_
  clear nb_ n0_ n1_ 
  go_wp2_with fail
  refine (cube_Meet.calls 1 1 2 0 3 1 true _ kmeet1).mono ?_
  rintro e w4 ⟨rfl, hb⟩
  have n0_ := Aside0.mk (blk_below (g := w1.heap.size) (o := .cells #[.int .u8 5, .int .u8 1] 24 (0, 0)) (by (with_reducible repeat (first | refine blk_drewN ?_ _ | refine blk_drew ?_ | refine blk_alloc ?_ _)); exact BC.out) hb)
  have n1_ := Aside0.mk (Kd.R_below (by (with_reducible repeat (first | apply Kd.R_alloc | apply Kd.R_drewN | apply Kd.R_drew)); exact RL.out) hb)
  have n2_ := Aside0.mk (blk_below (g := w3.heap.size) (o := .cells #[.int .u8 1, .int .u8 1] 24 (0, 0)) (by first | exact blk_new _ _ | exact blk_alloc (blk_new _ _) _ | exact blk_new1 _ _ _ | exact blk_alloc (blk_alloc (blk_new _ _) _) _ | exact blk_alloc (blk_new1 _ _ _) _) hb)
  have n3_ := Aside0.mk (blk_below (g := w3.heap.size + 1) (o := .cells #[.int .u8 2, .int .u8 0] 24 (0, 0)) (by first | exact blk_new _ _ | exact blk_alloc (blk_new _ _) _ | exact blk_new1 _ _ _ | exact blk_alloc (blk_alloc (blk_new _ _) _) _ | exact blk_alloc (blk_new1 _ _ _) _) hb)
  have nb_ := Aside0.mk (below_step (by repeat (first | (with_reducible first | exact HB.out | apply below_alloc | apply pw_below_drewN | apply below_drew1) | exact HB.out)) hb)
  clear hb
  clear HB BC RL
  have BC := n0_
  have RL := n1_
  have B7 := n2_
  have B8 := n3_
  have HB := nb_
  clear nb_ n0_ n1_ n2_ n3_ 
  have hzB7_0 : w4.cell? ⟨w3.heap.size, 0, none⟩ = some (.int .u8 1) := (blk_cell B7.out 0).trans rfl
  have hzB7_1 : w4.cell? ⟨w3.heap.size, 1, none⟩ = some (.int .u8 1) := (blk_cell B7.out 1).trans rfl
  have hsB7 := blk_lt B7.out
  have hnB7 := Nat.ne_of_lt (blk_lt B7.out)
  go_wp2_with fail
  clear hzB7_0 hzB7_1 hsB7 hnB7
  refine (cube_Meet.calls 1 1 1 0 0 0 false _ kmeet2).mono ?_
  rintro e w5 ⟨rfl, hb⟩
  have n0_ := Aside0.mk (blk_below (g := w1.heap.size) (o := .cells #[.int .u8 5, .int .u8 1] 24 (0, 0)) (by (with_reducible repeat (first | refine blk_drewN ?_ _ | refine blk_drew ?_ | refine blk_alloc ?_ _)); exact BC.out) hb)
  have n1_ := Aside0.mk (Kd.R_below (by (with_reducible repeat (first | apply Kd.R_alloc | apply Kd.R_drewN | apply Kd.R_drew)); exact RL.out) hb)
  have n2_ := Aside0.mk (blk_below (g := w3.heap.size) (o := .cells #[.int .u8 1, .int .u8 1] 24 (0, 0)) (by (with_reducible repeat (first | refine blk_drewN ?_ _ | refine blk_drew ?_ | refine blk_alloc ?_ _)); exact B7.out) hb)
  have n3_ := Aside0.mk (blk_below (g := w3.heap.size + 1) (o := .cells #[.int .u8 2, .int .u8 0] 24 (0, 0)) (by (with_reducible repeat (first | refine blk_drewN ?_ _ | refine blk_drew ?_ | refine blk_alloc ?_ _)); exact B8.out) hb)
  have n4_ := Aside0.mk (blk_below (g := w4.heap.size) (o := .cells #[.int .u8 3, .int .u8 1] 24 (0, 0)) (by first | exact blk_new _ _ | exact blk_alloc (blk_new _ _) _ | exact blk_new1 _ _ _ | exact blk_alloc (blk_alloc (blk_new _ _) _) _ | exact blk_alloc (blk_new1 _ _ _) _) hb)
  have nb_ := Aside0.mk (below_step (by repeat (first | (with_reducible first | exact HB.out | apply below_alloc | apply pw_below_drewN | apply below_drew1) | exact HB.out)) hb)
  clear hb
  clear HB BC RL B7 B8
  have BC := n0_
  have RL := n1_
  have B7 := n2_
  have B8 := n3_
  have B9 := n4_
  have HB := nb_
  clear nb_ n0_ n1_ n2_ n3_ n4_ 
  have hzB7_0 : w5.cell? ⟨w3.heap.size, 0, none⟩ = some (.int .u8 1) := (blk_cell B7.out 0).trans rfl
  have hzB7_1 : w5.cell? ⟨w3.heap.size, 1, none⟩ = some (.int .u8 1) := (blk_cell B7.out 1).trans rfl
  have hsB7 := blk_lt B7.out
  have hnB7 := Nat.ne_of_lt (blk_lt B7.out)
  go_wp2_with fail
  clear hzB7_0 hzB7_1 hsB7 hnB7
  refine (cube_Minus.calls 20 1 1 6 4 [⟨3, 3⟩, ⟨7, 1⟩] _ kminus).mono ?_
  rintro e w6 ⟨v6, rfl, hr, hb⟩
  have n0_ := Aside0.mk (blk_below (g := w1.heap.size) (o := .cells #[.int .u8 5, .int .u8 1] 24 (0, 0)) (by (with_reducible repeat (first | refine blk_drewN ?_ _ | refine blk_drew ?_ | refine blk_alloc ?_ _)); exact BC.out) hb)
  have n1_ := Aside0.mk (Kd.R_below (by (with_reducible repeat (first | apply Kd.R_alloc | apply Kd.R_drewN | apply Kd.R_drew)); exact RL.out) hb)
  have n2_ := Aside0.mk (blk_below (g := w3.heap.size) (o := .cells #[.int .u8 1, .int .u8 1] 24 (0, 0)) (by (with_reducible repeat (first | refine blk_drewN ?_ _ | refine blk_drew ?_ | refine blk_alloc ?_ _)); exact B7.out) hb)
  have n3_ := Aside0.mk (blk_below (g := w3.heap.size + 1) (o := .cells #[.int .u8 2, .int .u8 0] 24 (0, 0)) (by (with_reducible repeat (first | refine blk_drewN ?_ _ | refine blk_drew ?_ | refine blk_alloc ?_ _)); exact B8.out) hb)
  have n4_ := Aside0.mk (blk_below (g := w4.heap.size) (o := .cells #[.int .u8 3, .int .u8 1] 24 (0, 0)) (by (with_reducible repeat (first | refine blk_drewN ?_ _ | refine blk_drew ?_ | refine blk_alloc ?_ _)); exact B9.out) hb)
  have nb_ := Aside0.mk (below_step (by repeat (first | (with_reducible first | exact HB.out | apply below_alloc | apply pw_below_drewN | apply below_drew1) | exact HB.out)) hb)
  have rRM_ := Aside0.mk (Kd.R_lower hr (below_size (by repeat (first | (with_reducible first | exact HB.out | apply below_alloc | apply pw_below_drewN | apply below_drew1) | exact HB.out))))
  clear hr hb
  clear HB BC RL B7 B8 B9
  have BC := n0_
  have RL := n1_
  have B7 := n2_
  have B8 := n3_
  have B9 := n4_
  have HB := nb_
  have RM := rRM_
  clear nb_ n0_ n1_ n2_ n3_ n4_ rRM_
  go_wp2_with fail
  have hcl : Kd.C (Kd.int .u8) (w6.alloc (Obj.cells #[.int .u8 1, .int .u8 3, .int .u8 2, .int .u8 6] 22)) (some ⟨w6.heap.size, 0, none⟩) 4 [1, 3, 2, 6] := ints_C (cs := #[.int .u8 1, .int .u8 3, .int .u8 2, .int .u8 6]) rfl (blk_new _ _) rfl (by decide)
  refine (Cover_calls 3 (some ⟨w6.heap.size, 0, none⟩) 4 [1, 3, 2, 6] (by decide) [⟨3, 2⟩, ⟨7, 1⟩, ⟨7, 3⟩] 0 _ hcl (by decide) kcover).mono ?_
  rintro e w7 ⟨v7, rfl, hr, hb⟩
  have n0_ := Aside0.mk (blk_below (g := w1.heap.size) (o := .cells #[.int .u8 5, .int .u8 1] 24 (0, 0)) (by (with_reducible repeat (first | refine blk_drewN ?_ _ | refine blk_drew ?_ | refine blk_alloc ?_ _)); exact BC.out) hb)
  have n1_ := Aside0.mk (Kd.R_below (by (with_reducible repeat (first | apply Kd.R_alloc | apply Kd.R_drewN | apply Kd.R_drew)); exact RL.out) hb)
  have n2_ := Aside0.mk (blk_below (g := w3.heap.size) (o := .cells #[.int .u8 1, .int .u8 1] 24 (0, 0)) (by (with_reducible repeat (first | refine blk_drewN ?_ _ | refine blk_drew ?_ | refine blk_alloc ?_ _)); exact B7.out) hb)
  have n3_ := Aside0.mk (blk_below (g := w3.heap.size + 1) (o := .cells #[.int .u8 2, .int .u8 0] 24 (0, 0)) (by (with_reducible repeat (first | refine blk_drewN ?_ _ | refine blk_drew ?_ | refine blk_alloc ?_ _)); exact B8.out) hb)
  have n4_ := Aside0.mk (blk_below (g := w4.heap.size) (o := .cells #[.int .u8 3, .int .u8 1] 24 (0, 0)) (by (with_reducible repeat (first | refine blk_drewN ?_ _ | refine blk_drew ?_ | refine blk_alloc ?_ _)); exact B9.out) hb)
  have n5_ := Aside0.mk (Kd.R_below (by (with_reducible repeat (first | apply Kd.R_alloc | apply Kd.R_drewN | apply Kd.R_drew)); exact RM.out) hb)
  have nb_ := Aside0.mk (below_step (by repeat (first | (with_reducible first | exact HB.out | apply below_alloc | apply pw_below_drewN | apply below_drew1) | exact HB.out)) hb)
  have rRP_ := Aside0.mk (Kd.R_lower hr (below_size (by repeat (first | (with_reducible first | exact HB.out | apply below_alloc | apply pw_below_drewN | apply below_drew1) | exact HB.out))))
  clear hr hb hcl
  clear HB BC RL B7 B8 B9 RM
  have BC := n0_
  have RL := n1_
  have B7 := n2_
  have B8 := n3_
  have B9 := n4_
  have RM := n5_
  have HB := nb_
  have RP := rRP_
  clear nb_ n0_ n1_ n2_ n3_ n4_ n5_ rRP_
  go_wp2_with fail
  refine (cube_Print.calls 10 3 1 2 ⟨#[]⟩ 120 _ kprint).mono ?_
  rintro e w8 ⟨rfl, hb⟩
  have n0_ := Aside0.mk (blk_below (g := w1.heap.size) (o := .cells #[.int .u8 5, .int .u8 1] 24 (0, 0)) (by (with_reducible repeat (first | refine blk_drewN ?_ _ | refine blk_drew ?_ | refine blk_alloc ?_ _)); exact BC.out) hb)
  have n1_ := Aside0.mk (Kd.R_below (by (with_reducible repeat (first | apply Kd.R_alloc | apply Kd.R_drewN | apply Kd.R_drew)); exact RL.out) hb)
  have n2_ := Aside0.mk (blk_below (g := w3.heap.size) (o := .cells #[.int .u8 1, .int .u8 1] 24 (0, 0)) (by (with_reducible repeat (first | refine blk_drewN ?_ _ | refine blk_drew ?_ | refine blk_alloc ?_ _)); exact B7.out) hb)
  have n3_ := Aside0.mk (blk_below (g := w3.heap.size + 1) (o := .cells #[.int .u8 2, .int .u8 0] 24 (0, 0)) (by (with_reducible repeat (first | refine blk_drewN ?_ _ | refine blk_drew ?_ | refine blk_alloc ?_ _)); exact B8.out) hb)
  have n4_ := Aside0.mk (blk_below (g := w4.heap.size) (o := .cells #[.int .u8 3, .int .u8 1] 24 (0, 0)) (by (with_reducible repeat (first | refine blk_drewN ?_ _ | refine blk_drew ?_ | refine blk_alloc ?_ _)); exact B9.out) hb)
  have n5_ := Aside0.mk (Kd.R_below (by (with_reducible repeat (first | apply Kd.R_alloc | apply Kd.R_drewN | apply Kd.R_drew)); exact RM.out) hb)
  have n6_ := Aside0.mk (Kd.R_below (by (with_reducible repeat (first | apply Kd.R_alloc | apply Kd.R_drewN | apply Kd.R_drew)); exact RP.out) hb)
  have nb_ := Aside0.mk (below_step (by repeat (first | (with_reducible first | exact HB.out | apply below_alloc | apply pw_below_drewN | apply below_drew1) | exact HB.out)) hb)
  clear hb
  clear HB BC RL B7 B8 B9 RM RP
  have BC := n0_
  have RL := n1_
  have B7 := n2_
  have B8 := n3_
  have B9 := n4_
  have RM := n5_
  have RP := n6_
  have HB := nb_
  clear nb_ n0_ n1_ n2_ n3_ n4_ n5_ n6_ 
  go_wp2_with fail
  refine (cube_Parse.calls 10 3 _ 0 0 120 _ kparse2).mono ?_
  rintro e w9 ⟨rfl, hb⟩
  have n0_ := Aside0.mk (blk_below (g := w1.heap.size) (o := .cells #[.int .u8 5, .int .u8 1] 24 (0, 0)) (by (with_reducible repeat (first | refine blk_drewN ?_ _ | refine blk_drew ?_ | refine blk_alloc ?_ _)); exact BC.out) hb)
  have n1_ := Aside0.mk (Kd.R_below (by (with_reducible repeat (first | apply Kd.R_alloc | apply Kd.R_drewN | apply Kd.R_drew)); exact RL.out) hb)
  have n2_ := Aside0.mk (blk_below (g := w3.heap.size) (o := .cells #[.int .u8 1, .int .u8 1] 24 (0, 0)) (by (with_reducible repeat (first | refine blk_drewN ?_ _ | refine blk_drew ?_ | refine blk_alloc ?_ _)); exact B7.out) hb)
  have n3_ := Aside0.mk (blk_below (g := w3.heap.size + 1) (o := .cells #[.int .u8 2, .int .u8 0] 24 (0, 0)) (by (with_reducible repeat (first | refine blk_drewN ?_ _ | refine blk_drew ?_ | refine blk_alloc ?_ _)); exact B8.out) hb)
  have n4_ := Aside0.mk (blk_below (g := w4.heap.size) (o := .cells #[.int .u8 3, .int .u8 1] 24 (0, 0)) (by (with_reducible repeat (first | refine blk_drewN ?_ _ | refine blk_drew ?_ | refine blk_alloc ?_ _)); exact B9.out) hb)
  have n5_ := Aside0.mk (Kd.R_below (by (with_reducible repeat (first | apply Kd.R_alloc | apply Kd.R_drewN | apply Kd.R_drew)); exact RM.out) hb)
  have n6_ := Aside0.mk (Kd.R_below (by (with_reducible repeat (first | apply Kd.R_alloc | apply Kd.R_drewN | apply Kd.R_drew)); exact RP.out) hb)
  have nb_ := Aside0.mk (below_step (by repeat (first | (with_reducible first | exact HB.out | apply below_alloc | apply pw_below_drewN | apply below_drew1) | exact HB.out)) hb)
  clear hb
  clear HB BC RL B7 B8 B9 RM RP
  have BC := n0_
  have RL := n1_
  have B7 := n2_
  have B8 := n3_
  have B9 := n4_
  have RM := n5_
  have RP := n6_
  have HB := nb_
  clear nb_ n0_ n1_ n2_ n3_ n4_ n5_ n6_ 
  go_wp2_with fail
  refine (cube_Parse.calls 10 3 _ 0 0 120 _ kparse3).mono ?_
  rintro e w10 ⟨rfl, hb⟩
  have n0_ := Aside0.mk (blk_below (g := w1.heap.size) (o := .cells #[.int .u8 5, .int .u8 1] 24 (0, 0)) (by (with_reducible repeat (first | refine blk_drewN ?_ _ | refine blk_drew ?_ | refine blk_alloc ?_ _)); exact BC.out) hb)
  have n1_ := Aside0.mk (Kd.R_below (by (with_reducible repeat (first | apply Kd.R_alloc | apply Kd.R_drewN | apply Kd.R_drew)); exact RL.out) hb)
  have n2_ := Aside0.mk (blk_below (g := w3.heap.size) (o := .cells #[.int .u8 1, .int .u8 1] 24 (0, 0)) (by (with_reducible repeat (first | refine blk_drewN ?_ _ | refine blk_drew ?_ | refine blk_alloc ?_ _)); exact B7.out) hb)
  have n3_ := Aside0.mk (blk_below (g := w3.heap.size + 1) (o := .cells #[.int .u8 2, .int .u8 0] 24 (0, 0)) (by (with_reducible repeat (first | refine blk_drewN ?_ _ | refine blk_drew ?_ | refine blk_alloc ?_ _)); exact B8.out) hb)
  have n4_ := Aside0.mk (blk_below (g := w4.heap.size) (o := .cells #[.int .u8 3, .int .u8 1] 24 (0, 0)) (by (with_reducible repeat (first | refine blk_drewN ?_ _ | refine blk_drew ?_ | refine blk_alloc ?_ _)); exact B9.out) hb)
  have n5_ := Aside0.mk (Kd.R_below (by (with_reducible repeat (first | apply Kd.R_alloc | apply Kd.R_drewN | apply Kd.R_drew)); exact RM.out) hb)
  have n6_ := Aside0.mk (Kd.R_below (by (with_reducible repeat (first | apply Kd.R_alloc | apply Kd.R_drewN | apply Kd.R_drew)); exact RP.out) hb)
  have nb_ := Aside0.mk (below_step (by repeat (first | (with_reducible first | exact HB.out | apply below_alloc | apply pw_below_drewN | apply below_drew1) | exact HB.out)) hb)
  clear hb
  clear HB BC RL B7 B8 B9 RM RP
  have BC := n0_
  have RL := n1_
  have B7 := n2_
  have B8 := n3_
  have B9 := n4_
  have RM := n5_
  have RP := n6_
  have HB := nb_
  clear nb_ n0_ n1_ n2_ n3_ n4_ n5_ n6_ 
  obtain ⟨AL, cL, rfl, hcL, hCL⟩ := Kd.R_reads RL.out
  have hzBC_0 : w10.cell? ⟨w1.heap.size, 0, none⟩ = some (.int .u8 5) := (blk_cell BC.out 0).trans rfl
  have hzBC_1 : w10.cell? ⟨w1.heap.size, 1, none⟩ = some (.int .u8 1) := (blk_cell BC.out 1).trans rfl
  have hsBC := blk_lt BC.out
  have hnBC := Nat.ne_of_lt (blk_lt BC.out)
  go_wp2_with fail
  have hq := ints_C (k := .u8) (cs := #[.int .u8 1, .int .u8 3]) (xs := [1, 3]) (n := 2) rfl (blk_new1 w10 (Obj.cells #[.int .u8 0, .int .u8 0] 24) (Obj.cells #[.int .u8 1, .int .u8 3] 22)) rfl (by decide)
  clear hzBC_0 hzBC_1 hsBC hnBC
  refine (rejoinderkit_SameLetters.calls 10 AL cL [1, 3] (some ⟨w10.heap.size + 1, 0, none⟩) 2 [1, 3] true _ (by repeat (first | exact hCL | (with_reducible refine Kd.C_alloc ?_ _))) hcL hq (by decide) ksl).mono ?_
  rintro e w11 ⟨rfl, hd⟩
  clear RL
  clear B8
  have n0_ := Aside0.mk (blk_below (g := w1.heap.size) (o := .cells #[.int .u8 5, .int .u8 1] 24 (0, 0)) (by (with_reducible repeat (first | refine blk_drewN ?_ _ | refine blk_drew ?_ | refine blk_alloc ?_ _)); exact BC.out) hd.below)
  have n1_ := Aside0.mk (blk_below (g := w3.heap.size) (o := .cells #[.int .u8 1, .int .u8 1] 24 (0, 0)) (by (with_reducible repeat (first | refine blk_drewN ?_ _ | refine blk_drew ?_ | refine blk_alloc ?_ _)); exact B7.out) hd.below)
  have n2_ := Aside0.mk (blk_below (g := w4.heap.size) (o := .cells #[.int .u8 3, .int .u8 1] 24 (0, 0)) (by (with_reducible repeat (first | refine blk_drewN ?_ _ | refine blk_drew ?_ | refine blk_alloc ?_ _)); exact B9.out) hd.below)
  have n3_ := Aside0.mk (Kd.R_below (by (with_reducible repeat (first | apply Kd.R_alloc | apply Kd.R_drewN | apply Kd.R_drew)); exact RM.out) hd.below)
  have n4_ := Aside0.mk (Kd.R_below (by (with_reducible repeat (first | apply Kd.R_alloc | apply Kd.R_drewN | apply Kd.R_drew)); exact RP.out) hd.below)
  have nb_ := Aside0.mk (below_step (by repeat (first | (with_reducible first | exact HB.out | apply below_alloc | apply pw_below_drewN | apply below_drew1) | exact HB.out)) hd.below)
  clear hd hCL hq hcL
  clear HB BC B7 B9 RM RP
  have BC := n0_
  have B7 := n1_
  have B9 := n2_
  have RM := n3_
  have RP := n4_
  have HB := nb_
  clear nb_ n0_ n1_ n2_ n3_ n4_ 
  obtain ⟨AM, cM, rfl, hcM, hCM⟩ := Kd.R_reads RM.out
  have hzB9_0 : w11.cell? ⟨w4.heap.size, 0, none⟩ = some (.int .u8 3) := (blk_cell B9.out 0).trans rfl
  have hzB9_1 : w11.cell? ⟨w4.heap.size, 1, none⟩ = some (.int .u8 1) := (blk_cell B9.out 1).trans rfl
  have hsB9 := blk_lt B9.out
  have hnB9 := Nat.ne_of_lt (blk_lt B9.out)
  go_wp2_with fail
  have hq : Kd.C k24 (w11.alloc (Obj.cells #[.int .u8 3, .int .u8 3, .int .u8 7, .int .u8 1] 24)) (some ⟨w11.heap.size, 0, none⟩) 2 [⟨3, 3⟩, ⟨7, 1⟩] := lit_C (d := k24) (cs := #[.int .u8 3, .int .u8 3, .int .u8 7, .int .u8 1]) (reps_cons (p := (⟨3, 3⟩ : S24)) (k24_mk _ _) rfl (reps_cons (p := (⟨7, 1⟩ : S24)) (k24_mk _ _) rfl (reps_nil _ _))) (blk_new _ _) rfl (by decide)
  clear hzB9_0 hzB9_1 hsB9 hnB9
  refine (rejoinderlaw02_Same.calls 10 AM cM [⟨3, 3⟩, ⟨7, 1⟩] (some ⟨w11.heap.size, 0, none⟩) 2 [⟨3, 3⟩, ⟨7, 1⟩] true _ (by repeat (first | exact hCM | (with_reducible refine Kd.C_alloc ?_ _))) hcM hq (by decide) ksame2).mono ?_
  rintro e w12 ⟨rfl, hd⟩
  clear RM
  have n0_ := Aside0.mk (blk_below (g := w1.heap.size) (o := .cells #[.int .u8 5, .int .u8 1] 24 (0, 0)) (by (with_reducible repeat (first | refine blk_drewN ?_ _ | refine blk_drew ?_ | refine blk_alloc ?_ _)); exact BC.out) hd.below)
  have n1_ := Aside0.mk (blk_below (g := w3.heap.size) (o := .cells #[.int .u8 1, .int .u8 1] 24 (0, 0)) (by (with_reducible repeat (first | refine blk_drewN ?_ _ | refine blk_drew ?_ | refine blk_alloc ?_ _)); exact B7.out) hd.below)
  have n2_ := Aside0.mk (blk_below (g := w4.heap.size) (o := .cells #[.int .u8 3, .int .u8 1] 24 (0, 0)) (by (with_reducible repeat (first | refine blk_drewN ?_ _ | refine blk_drew ?_ | refine blk_alloc ?_ _)); exact B9.out) hd.below)
  have n3_ := Aside0.mk (Kd.R_below (by (with_reducible repeat (first | apply Kd.R_alloc | apply Kd.R_drewN | apply Kd.R_drew)); exact RP.out) hd.below)
  have nb_ := Aside0.mk (below_step (by repeat (first | (with_reducible first | exact HB.out | apply below_alloc | apply pw_below_drewN | apply below_drew1) | exact HB.out)) hd.below)
  clear hd hCM hq hcM
  clear HB BC B7 B9 RP
  have BC := n0_
  have B7 := n1_
  have B9 := n2_
  have RP := n3_
  have HB := nb_
  clear nb_ n0_ n1_ n2_ n3_ 
  obtain ⟨AP, cP, rfl, hcP, hCP⟩ := Kd.R_reads RP.out
  go_wp2_with fail
  have hq : Kd.C k24 (w12.alloc (Obj.cells #[.int .u8 3, .int .u8 2, .int .u8 7, .int .u8 1, .int .u8 7, .int .u8 3] 24)) (some ⟨w12.heap.size, 0, none⟩) 3 [⟨3, 2⟩, ⟨7, 1⟩, ⟨7, 3⟩] := lit_C (d := k24) (cs := #[.int .u8 3, .int .u8 2, .int .u8 7, .int .u8 1, .int .u8 7, .int .u8 3]) (reps_cons (p := (⟨3, 2⟩ : S24)) (k24_mk _ _) rfl (reps_cons (p := (⟨7, 1⟩ : S24)) (k24_mk _ _) rfl (reps_cons (p := (⟨7, 3⟩ : S24)) (k24_mk _ _) rfl (reps_nil _ _)))) (blk_new _ _) rfl (by decide)
  refine (rejoinderlaw02_Same.calls 10 AP cP [⟨3, 2⟩, ⟨7, 1⟩, ⟨7, 3⟩] (some ⟨w12.heap.size, 0, none⟩) 3 [⟨3, 2⟩, ⟨7, 1⟩, ⟨7, 3⟩] true _ (by repeat (first | exact hCP | (with_reducible refine Kd.C_alloc ?_ _))) hcP hq (by decide) ksame3).mono ?_
  rintro e w13 ⟨rfl, hd⟩
  clear RP
  have n0_ := Aside0.mk (blk_below (g := w1.heap.size) (o := .cells #[.int .u8 5, .int .u8 1] 24 (0, 0)) (by (with_reducible repeat (first | refine blk_drewN ?_ _ | refine blk_drew ?_ | refine blk_alloc ?_ _)); exact BC.out) hd.below)
  have n1_ := Aside0.mk (blk_below (g := w3.heap.size) (o := .cells #[.int .u8 1, .int .u8 1] 24 (0, 0)) (by (with_reducible repeat (first | refine blk_drewN ?_ _ | refine blk_drew ?_ | refine blk_alloc ?_ _)); exact B7.out) hd.below)
  have n2_ := Aside0.mk (blk_below (g := w4.heap.size) (o := .cells #[.int .u8 3, .int .u8 1] 24 (0, 0)) (by (with_reducible repeat (first | refine blk_drewN ?_ _ | refine blk_drew ?_ | refine blk_alloc ?_ _)); exact B9.out) hd.below)
  have nb_ := Aside0.mk (below_step (by repeat (first | (with_reducible first | exact HB.out | apply below_alloc | apply pw_below_drewN | apply below_drew1) | exact HB.out)) hd.below)
  clear hd hCP hq hcP
  clear HB BC B7 B9
  have BC := n0_
  have B7 := n1_
  have B9 := n2_
  have HB := nb_
  clear nb_ n0_ n1_ n2_ 
  have hzBC_0 : w13.cell? ⟨w1.heap.size, 0, none⟩ = some (.int .u8 5) := (blk_cell BC.out 0).trans rfl
  have hzBC_1 : w13.cell? ⟨w1.heap.size, 1, none⟩ = some (.int .u8 1) := (blk_cell BC.out 1).trans rfl
  have hsBC := blk_lt BC.out
  have hnBC := Nat.ne_of_lt (blk_lt BC.out)
  go_wp2_with fail
  clear hzBC_0 hzBC_1 hsBC hnBC
  refine (cube_Has.calls 5 1 1 true _ khas1).mono ?_
  rintro e w14 ⟨rfl, hb⟩
  have n0_ := Aside0.mk (blk_below (g := w1.heap.size) (o := .cells #[.int .u8 5, .int .u8 1] 24 (0, 0)) (by (with_reducible repeat (first | refine blk_drewN ?_ _ | refine blk_drew ?_ | refine blk_alloc ?_ _)); exact BC.out) hb)
  have n1_ := Aside0.mk (blk_below (g := w3.heap.size) (o := .cells #[.int .u8 1, .int .u8 1] 24 (0, 0)) (by (with_reducible repeat (first | refine blk_drewN ?_ _ | refine blk_drew ?_ | refine blk_alloc ?_ _)); exact B7.out) hb)
  have n2_ := Aside0.mk (blk_below (g := w4.heap.size) (o := .cells #[.int .u8 3, .int .u8 1] 24 (0, 0)) (by (with_reducible repeat (first | refine blk_drewN ?_ _ | refine blk_drew ?_ | refine blk_alloc ?_ _)); exact B9.out) hb)
  have nb_ := Aside0.mk (below_step (by repeat (first | (with_reducible first | exact HB.out | apply below_alloc | apply pw_below_drewN | apply below_drew1) | exact HB.out)) hb)
  clear hb
  clear HB BC B7 B9
  have BC := n0_
  have B7 := n1_
  have B9 := n2_
  have HB := nb_
  clear nb_ n0_ n1_ n2_ 
  have hzBC_0 : w14.cell? ⟨w1.heap.size, 0, none⟩ = some (.int .u8 5) := (blk_cell BC.out 0).trans rfl
  have hzBC_1 : w14.cell? ⟨w1.heap.size, 1, none⟩ = some (.int .u8 1) := (blk_cell BC.out 1).trans rfl
  have hsBC := blk_lt BC.out
  have hnBC := Nat.ne_of_lt (blk_lt BC.out)
  go_wp2_with fail
  clear hzBC_0 hzBC_1 hsBC hnBC
  refine (cube_Has.calls 5 1 3 true _ khas2).mono ?_
  rintro e w15 ⟨rfl, hb⟩
  have n0_ := Aside0.mk (blk_below (g := w1.heap.size) (o := .cells #[.int .u8 5, .int .u8 1] 24 (0, 0)) (by (with_reducible repeat (first | refine blk_drewN ?_ _ | refine blk_drew ?_ | refine blk_alloc ?_ _)); exact BC.out) hb)
  have n1_ := Aside0.mk (blk_below (g := w3.heap.size) (o := .cells #[.int .u8 1, .int .u8 1] 24 (0, 0)) (by (with_reducible repeat (first | refine blk_drewN ?_ _ | refine blk_drew ?_ | refine blk_alloc ?_ _)); exact B7.out) hb)
  have n2_ := Aside0.mk (blk_below (g := w4.heap.size) (o := .cells #[.int .u8 3, .int .u8 1] 24 (0, 0)) (by (with_reducible repeat (first | refine blk_drewN ?_ _ | refine blk_drew ?_ | refine blk_alloc ?_ _)); exact B9.out) hb)
  have nb_ := Aside0.mk (below_step (by repeat (first | (with_reducible first | exact HB.out | apply below_alloc | apply pw_below_drewN | apply below_drew1) | exact HB.out)) hb)
  clear hb
  clear HB BC B7 B9
  have BC := n0_
  have B7 := n1_
  have B9 := n2_
  have HB := nb_
  clear nb_ n0_ n1_ n2_ 
  have hzBC_0 : w15.cell? ⟨w1.heap.size, 0, none⟩ = some (.int .u8 5) := (blk_cell BC.out 0).trans rfl
  have hzBC_1 : w15.cell? ⟨w1.heap.size, 1, none⟩ = some (.int .u8 1) := (blk_cell BC.out 1).trans rfl
  have hsBC := blk_lt BC.out
  have hnBC := Nat.ne_of_lt (blk_lt BC.out)
  go_wp2_with fail
  clear hzBC_0 hzBC_1 hsBC hnBC
  refine (cube_Has.calls 5 1 5 false _ khas3).mono ?_
  rintro e w16 ⟨rfl, hb⟩
  have n0_ := Aside0.mk (blk_below (g := w1.heap.size) (o := .cells #[.int .u8 5, .int .u8 1] 24 (0, 0)) (by (with_reducible repeat (first | refine blk_drewN ?_ _ | refine blk_drew ?_ | refine blk_alloc ?_ _)); exact BC.out) hb)
  have n1_ := Aside0.mk (blk_below (g := w3.heap.size) (o := .cells #[.int .u8 1, .int .u8 1] 24 (0, 0)) (by (with_reducible repeat (first | refine blk_drewN ?_ _ | refine blk_drew ?_ | refine blk_alloc ?_ _)); exact B7.out) hb)
  have n2_ := Aside0.mk (blk_below (g := w4.heap.size) (o := .cells #[.int .u8 3, .int .u8 1] 24 (0, 0)) (by (with_reducible repeat (first | refine blk_drewN ?_ _ | refine blk_drew ?_ | refine blk_alloc ?_ _)); exact B9.out) hb)
  have nb_ := Aside0.mk (below_step (by repeat (first | (with_reducible first | exact HB.out | apply below_alloc | apply pw_below_drewN | apply below_drew1) | exact HB.out)) hb)
  clear hb
  clear HB BC B7 B9
  have BC := n0_
  have B7 := n1_
  have B9 := n2_
  have HB := nb_
  clear nb_ n0_ n1_ n2_ 
  have hzB9_0 : w16.cell? ⟨w4.heap.size, 0, none⟩ = some (.int .u8 3) := (blk_cell B9.out 0).trans rfl
  have hzB9_1 : w16.cell? ⟨w4.heap.size, 1, none⟩ = some (.int .u8 1) := (blk_cell B9.out 1).trans rfl
  have hsB9 := blk_lt B9.out
  have hnB9 := Nat.ne_of_lt (blk_lt B9.out)
  have hzB7_0 : w16.cell? ⟨w3.heap.size, 0, none⟩ = some (.int .u8 1) := (blk_cell B7.out 0).trans rfl
  have hzB7_1 : w16.cell? ⟨w3.heap.size, 1, none⟩ = some (.int .u8 1) := (blk_cell B7.out 1).trans rfl
  have hsB7 := blk_lt B7.out
  have hnB7 := Nat.ne_of_lt (blk_lt B7.out)
  go_wp2_with fail
  clear hzB9_0 hzB9_1 hzB7_0 hzB7_1 hsB9 hsB7 hnB9 hnB7
  refine (cube_Within.calls 3 1 1 1 true _ kwith1).mono ?_
  rintro e w17 ⟨rfl, hb⟩
  have n0_ := Aside0.mk (blk_below (g := w1.heap.size) (o := .cells #[.int .u8 5, .int .u8 1] 24 (0, 0)) (by (with_reducible repeat (first | refine blk_drewN ?_ _ | refine blk_drew ?_ | refine blk_alloc ?_ _)); exact BC.out) hb)
  have n1_ := Aside0.mk (blk_below (g := w3.heap.size) (o := .cells #[.int .u8 1, .int .u8 1] 24 (0, 0)) (by (with_reducible repeat (first | refine blk_drewN ?_ _ | refine blk_drew ?_ | refine blk_alloc ?_ _)); exact B7.out) hb)
  have n2_ := Aside0.mk (blk_below (g := w4.heap.size) (o := .cells #[.int .u8 3, .int .u8 1] 24 (0, 0)) (by (with_reducible repeat (first | refine blk_drewN ?_ _ | refine blk_drew ?_ | refine blk_alloc ?_ _)); exact B9.out) hb)
  have nb_ := Aside0.mk (below_step (by repeat (first | (with_reducible first | exact HB.out | apply below_alloc | apply pw_below_drewN | apply below_drew1) | exact HB.out)) hb)
  clear hb
  clear HB BC B7 B9
  have BC := n0_
  have B7 := n1_
  have B9 := n2_
  have HB := nb_
  clear nb_ n0_ n1_ n2_ 
  have hzB7_0 : w17.cell? ⟨w3.heap.size, 0, none⟩ = some (.int .u8 1) := (blk_cell B7.out 0).trans rfl
  have hzB7_1 : w17.cell? ⟨w3.heap.size, 1, none⟩ = some (.int .u8 1) := (blk_cell B7.out 1).trans rfl
  have hsB7 := blk_lt B7.out
  have hnB7 := Nat.ne_of_lt (blk_lt B7.out)
  have hzB9_0 : w17.cell? ⟨w4.heap.size, 0, none⟩ = some (.int .u8 3) := (blk_cell B9.out 0).trans rfl
  have hzB9_1 : w17.cell? ⟨w4.heap.size, 1, none⟩ = some (.int .u8 1) := (blk_cell B9.out 1).trans rfl
  have hsB9 := blk_lt B9.out
  have hnB9 := Nat.ne_of_lt (blk_lt B9.out)
  go_wp2_with fail
  clear hzB7_0 hzB7_1 hzB9_0 hzB9_1 hsB7 hsB9 hnB7 hnB9
  refine (cube_Within.calls 1 1 3 1 false _ kwith2).mono ?_
  rintro e w18 ⟨rfl, hb⟩
  have n0_ := Aside0.mk (blk_below (g := w1.heap.size) (o := .cells #[.int .u8 5, .int .u8 1] 24 (0, 0)) (by (with_reducible repeat (first | refine blk_drewN ?_ _ | refine blk_drew ?_ | refine blk_alloc ?_ _)); exact BC.out) hb)
  have n1_ := Aside0.mk (blk_below (g := w3.heap.size) (o := .cells #[.int .u8 1, .int .u8 1] 24 (0, 0)) (by (with_reducible repeat (first | refine blk_drewN ?_ _ | refine blk_drew ?_ | refine blk_alloc ?_ _)); exact B7.out) hb)
  have n2_ := Aside0.mk (blk_below (g := w4.heap.size) (o := .cells #[.int .u8 3, .int .u8 1] 24 (0, 0)) (by (with_reducible repeat (first | refine blk_drewN ?_ _ | refine blk_drew ?_ | refine blk_alloc ?_ _)); exact B9.out) hb)
  have nb_ := Aside0.mk (below_step (by repeat (first | (with_reducible first | exact HB.out | apply below_alloc | apply pw_below_drewN | apply below_drew1) | exact HB.out)) hb)
  clear hb
  clear HB BC B7 B9
  have BC := n0_
  have B7 := n1_
  have B9 := n2_
  have HB := nb_
  clear nb_ n0_ n1_ n2_ 
  have hzB7_0 : w18.cell? ⟨w3.heap.size, 0, none⟩ = some (.int .u8 1) := (blk_cell B7.out 0).trans rfl
  have hzB7_1 : w18.cell? ⟨w3.heap.size, 1, none⟩ = some (.int .u8 1) := (blk_cell B7.out 1).trans rfl
  have hsB7 := blk_lt B7.out
  have hnB7 := Nat.ne_of_lt (blk_lt B7.out)
  go_wp2_with fail
  clear hzB7_0 hzB7_1 hsB7 hnB7
  refine (cube_Minus.calls 20 1 1 1 1 [] _ kminus2).mono ?_
  rintro e w19 ⟨v18, rfl, hr, hb⟩
  have n0_ := Aside0.mk (blk_below (g := w1.heap.size) (o := .cells #[.int .u8 5, .int .u8 1] 24 (0, 0)) (by (with_reducible repeat (first | refine blk_drewN ?_ _ | refine blk_drew ?_ | refine blk_alloc ?_ _)); exact BC.out) hb)
  have n1_ := Aside0.mk (blk_below (g := w3.heap.size) (o := .cells #[.int .u8 1, .int .u8 1] 24 (0, 0)) (by (with_reducible repeat (first | refine blk_drewN ?_ _ | refine blk_drew ?_ | refine blk_alloc ?_ _)); exact B7.out) hb)
  have n2_ := Aside0.mk (blk_below (g := w4.heap.size) (o := .cells #[.int .u8 3, .int .u8 1] 24 (0, 0)) (by (with_reducible repeat (first | refine blk_drewN ?_ _ | refine blk_drew ?_ | refine blk_alloc ?_ _)); exact B9.out) hb)
  have nb_ := Aside0.mk (below_step (by repeat (first | (with_reducible first | exact HB.out | apply below_alloc | apply pw_below_drewN | apply below_drew1) | exact HB.out)) hb)
  have rRZ_ := Aside0.mk (Kd.R_lower hr (below_size (by repeat (first | (with_reducible first | exact HB.out | apply below_alloc | apply pw_below_drewN | apply below_drew1) | exact HB.out))))
  clear hr hb
  clear HB BC B7 B9
  have BC := n0_
  have B7 := n1_
  have B9 := n2_
  have HB := nb_
  have RZ := rRZ_
  clear nb_ n0_ n1_ n2_ rRZ_
  obtain ⟨AZ, cZ, rfl⟩ := Kd.R_slice RZ.out
  have hzB7_0 : w19.cell? ⟨w3.heap.size, 0, none⟩ = some (.int .u8 1) := (blk_cell B7.out 0).trans rfl
  have hzB7_1 : w19.cell? ⟨w3.heap.size, 1, none⟩ = some (.int .u8 1) := (blk_cell B7.out 1).trans rfl
  have hsB7 := blk_lt B7.out
  have hnB7 := Nat.ne_of_lt (blk_lt B7.out)
  go_wp2_with fail
  clear hzB7_0 hzB7_1 hsB7 hnB7
  refine (cube_Check.calls 9 1 1 2 _ kcheck).mono ?_
  rintro e w20 ⟨rfl, hb⟩
  have n0_ := Aside0.mk (blk_below (g := w1.heap.size) (o := .cells #[.int .u8 5, .int .u8 1] 24 (0, 0)) (by (with_reducible repeat (first | refine blk_drewN ?_ _ | refine blk_drew ?_ | refine blk_alloc ?_ _)); exact BC.out) hb)
  have n1_ := Aside0.mk (blk_below (g := w3.heap.size) (o := .cells #[.int .u8 1, .int .u8 1] 24 (0, 0)) (by (with_reducible repeat (first | refine blk_drewN ?_ _ | refine blk_drew ?_ | refine blk_alloc ?_ _)); exact B7.out) hb)
  have n2_ := Aside0.mk (blk_below (g := w4.heap.size) (o := .cells #[.int .u8 3, .int .u8 1] 24 (0, 0)) (by (with_reducible repeat (first | refine blk_drewN ?_ _ | refine blk_drew ?_ | refine blk_alloc ?_ _)); exact B9.out) hb)
  have n3_ := Aside0.mk (Kd.R_below (by (with_reducible repeat (first | apply Kd.R_alloc | apply Kd.R_drewN | apply Kd.R_drew)); exact RZ.out) hb)
  have nb_ := Aside0.mk (below_step (by repeat (first | (with_reducible first | exact HB.out | apply below_alloc | apply pw_below_drewN | apply below_drew1) | exact HB.out)) hb)
  clear hb
  clear HB BC B7 B9 RZ
  have BC := n0_
  have B7 := n1_
  have B9 := n2_
  have RZ := n3_
  have HB := nb_
  clear nb_ n0_ n1_ n2_ n3_ 
  go_wp2
  go_ret
  exact ⟨rfl, by repeat (first | (with_reducible first | exact HB.out | apply below_alloc | apply pw_below_drewN | apply below_drew1) | exact HB.out)⟩
end Go.Proofs.Ytpnocpfagbfboaa.PCube
