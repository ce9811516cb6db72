/- The law's closed call walks through the chapter's examples. -/
import Derived.Test.YtaogoabnidbbpaaDoorTextKnownVals
import Derived.Test.YtaogoabnidbbpaaDoorAid
namespace Go.Proofs.YtaogoabnidbbpaaDoor.PText
open Go.RowKit Go.Proofs.YtaogoabnidbbpaaDoorW.PrintWords Go.Proofs.YtaogoabnidbbpaaDoorW.PrintLast Go.Proofs.YtaogoabnidbbpaaDoorW.PrintMore Go.Proofs.YtaogoabnidbbpaaDoorW.Aid
set_option linter.unusedVariables false
theorem Aid_new2 (w : World) (o o' o'' : Obj) : (((w.alloc o).alloc o').alloc o'').heap[w.heap.size + 1 + 1]? = some o'' := by
  have := blk_new ((w.alloc o).alloc o') o''
  simpa using this
set_option maxHeartbeats 4000000 in
set_option maxRecDepth 100000 in
theorem law_known (w : World) (HT : Aside0 (Laid w)) : Calls Tryd.prog 5 #[] w fun e w' => e = .returned (.bool true) ∧ Below w.heap.size w w' := by
  have HB := Aside0.mk (Below.refl w.heap.size w)
  go_enter Tryd.func5, Tryd.ntmps5
  go_wp2_with fail
  refine (lexis_Words.calls 40 (⟨#[88, 40, 112, 49, 38, 33, 113, 41]⟩ : ByteArray) _ _ _ _ kw0).mono ?_
  rintro e w1 ⟨vL, rfl, hr, hb⟩
  have nb_ := Aside0.mk (below_step (by repeat (first | (with_reducible first | exact HB.out | apply below_alloc | apply pw_below_drewN | apply below_drew1) | exact HB.out)) hb)
  have rRL_ := Aside0.mk (Kd.R_lower hr (below_size (by repeat (first | (with_reducible first | exact HB.out | apply below_alloc | apply pw_below_drewN | apply below_drew1) | exact HB.out))))
  clear hr hb
  clear HB 
  have HB := nb_
  have RL := rRL_
  clear nb_  rRL_
  go_wp2_with fail
  refine (lexis_Words.calls 40 (⟨#[112, 60, 45, 62, 113]⟩ : ByteArray) _ _ _ _ kw1).mono ?_
  rintro e w2 ⟨vM, rfl, hr, hb⟩
  have n0_ := Aside0.mk (Kd.R_below (by (with_reducible repeat (first | apply Kd.R_alloc | apply Kd.R_drewN | apply Kd.R_drew)); exact RL.out) hb)
  have n1_ := Aside0.mk (blk_below (g := w1.heap.size) (o := (.cells #[.int .i64 0, .int .i64 0] 26 (0, 0))) (by first | exact blk_new _ _ | exact blk_alloc (blk_new _ _) _ | exact blk_new1 _ _ _ | exact blk_alloc (blk_alloc (blk_new _ _) _) _ | exact blk_alloc (blk_new1 _ _ _) _) hb)
  have nb_ := Aside0.mk (below_step (by repeat (first | (with_reducible first | exact HB.out | apply below_alloc | apply pw_below_drewN | apply below_drew1) | exact HB.out)) hb)
  have rRM_ := Aside0.mk (Kd.R_lower hr (below_size (by repeat (first | (with_reducible first | exact HB.out | apply below_alloc | apply pw_below_drewN | apply below_drew1) | exact HB.out))))
  clear hr hb
  clear HB RL
  have RL := n0_
  have BL := n1_
  have HB := nb_
  have RM := rRM_
  clear nb_ n0_ n1_ rRM_
  go_wp2_with fail
  refine (lexis_Words.calls 40 (⟨#[32]⟩ : ByteArray) _ _ _ _ kw2).mono ?_
  rintro e w3 ⟨vN, rfl, hr, hb⟩
  have n0_ := Aside0.mk (Kd.R_below (by (with_reducible repeat (first | apply Kd.R_alloc | apply Kd.R_drewN | apply Kd.R_drew)); exact RL.out) hb)
  have n1_ := Aside0.mk (blk_below (g := w1.heap.size) (o := (.cells #[.int .i64 0, .int .i64 0] 26 (0, 0))) (by (with_reducible repeat (first | refine blk_drewN ?_ _ | refine blk_drew ?_ | refine blk_alloc ?_ _)); exact BL.out) hb)
  have n2_ := Aside0.mk (Kd.R_below (by (with_reducible repeat (first | apply Kd.R_alloc | apply Kd.R_drewN | apply Kd.R_drew)); exact RM.out) hb)
  have n3_ := Aside0.mk (blk_below (g := w2.heap.size) (o := (.cells #[.int .i64 0, .int .i64 0] 26 (0, 0))) (by first | exact blk_new _ _ | exact blk_alloc (blk_new _ _) _ | exact blk_new1 _ _ _ | exact blk_alloc (blk_alloc (blk_new _ _) _) _ | exact blk_alloc (blk_new1 _ _ _) _) hb)
  have nb_ := Aside0.mk (below_step (by repeat (first | (with_reducible first | exact HB.out | apply below_alloc | apply pw_below_drewN | apply below_drew1) | exact HB.out)) hb)
  have rRN_ := Aside0.mk (Kd.R_lower hr (below_size (by repeat (first | (with_reducible first | exact HB.out | apply below_alloc | apply pw_below_drewN | apply below_drew1) | exact HB.out))))
  clear hr hb
  clear HB RL BL RM
  have RL := n0_
  have BL := n1_
  have RM := n2_
  have BM := n3_
  have HB := nb_
  have RN := rRN_
  clear nb_ n0_ n1_ n2_ n3_ rRN_
  go_wp2_with fail
  refine (lexis_Words.calls 40 (⟨#[116, 114, 117, 101, 50]⟩ : ByteArray) _ _ _ _ kw3).mono ?_
  rintro e w4 ⟨vO, rfl, hr, hb⟩
  have n0_ := Aside0.mk (Kd.R_below (by (with_reducible repeat (first | apply Kd.R_alloc | apply Kd.R_drewN | apply Kd.R_drew)); exact RL.out) hb)
  have n1_ := Aside0.mk (blk_below (g := w1.heap.size) (o := (.cells #[.int .i64 0, .int .i64 0] 26 (0, 0))) (by (with_reducible repeat (first | refine blk_drewN ?_ _ | refine blk_drew ?_ | refine blk_alloc ?_ _)); exact BL.out) hb)
  have n2_ := Aside0.mk (Kd.R_below (by (with_reducible repeat (first | apply Kd.R_alloc | apply Kd.R_drewN | apply Kd.R_drew)); exact RM.out) hb)
  have n3_ := Aside0.mk (blk_below (g := w2.heap.size) (o := (.cells #[.int .i64 0, .int .i64 0] 26 (0, 0))) (by (with_reducible repeat (first | refine blk_drewN ?_ _ | refine blk_drew ?_ | refine blk_alloc ?_ _)); exact BM.out) hb)
  have n4_ := Aside0.mk (Kd.R_below (by (with_reducible repeat (first | apply Kd.R_alloc | apply Kd.R_drewN | apply Kd.R_drew)); exact RN.out) hb)
  have n5_ := Aside0.mk (blk_below (g := w3.heap.size) (o := (.cells #[.int .i64 0, .int .i64 0] 26 (0, 0))) (by first | exact blk_new _ _ | exact blk_alloc (blk_new _ _) _ | exact blk_new1 _ _ _ | exact blk_alloc (blk_alloc (blk_new _ _) _) _ | exact blk_alloc (blk_new1 _ _ _) _) hb)
  have nb_ := Aside0.mk (below_step (by repeat (first | (with_reducible first | exact HB.out | apply below_alloc | apply pw_below_drewN | apply below_drew1) | exact HB.out)) hb)
  have rRO_ := Aside0.mk (Kd.R_lower hr (below_size (by repeat (first | (with_reducible first | exact HB.out | apply below_alloc | apply pw_below_drewN | apply below_drew1) | exact HB.out))))
  clear hr hb
  clear HB RL BL RM BM RN
  have RL := n0_
  have BL := n1_
  have RM := n2_
  have BM := n3_
  have RN := n4_
  have BN := n5_
  have HB := nb_
  have RO := rRO_
  clear nb_ n0_ n1_ n2_ n3_ n4_ n5_ rRO_
  go_wp2_with fail
  obtain ⟨WS, hWS⟩ : ∃ WS, WS = ((w4.alloc (.cells #[.int .i64 0, .int .i64 0] 26 (0, 0))).alloc (.cells #[.string (⟨#[112, 60, 45, 113]⟩ : ByteArray), .string (⟨#[80]⟩ : ByteArray), .string (⟨#[49, 112]⟩ : ByteArray), .string (⟨#[88, 49]⟩ : ByteArray), .string (⟨#[112, 32, 35]⟩ : ByteArray)] 9 (0, 0))).alloc (.cells #[.int .i64 2, .int .i64 0, .int .i64 0, .int .i64 0, .int .i64 2] 3 (0, 0)) := ⟨_, rfl⟩
  have n0_ : WS.heap.size = w4.heap.size + 3 := by rw [hWS]; simp
  have HS := Aside0.mk n0_
  have BO := Aside0.mk (show WS.heap[w4.heap.size]? = some (.cells #[.int .i64 0, .int .i64 0] 26 (0, 0)) by rw [hWS]; exact blk_alloc (blk_alloc (blk_new _ _) _) _)
  have BT := Aside0.mk (show WS.heap[(w4.heap.size + 1)]? = some (.cells #[.string (⟨#[112, 60, 45, 113]⟩ : ByteArray), .string (⟨#[80]⟩ : ByteArray), .string (⟨#[49, 112]⟩ : ByteArray), .string (⟨#[88, 49]⟩ : ByteArray), .string (⟨#[112, 32, 35]⟩ : ByteArray)] 9 (0, 0)) by rw [hWS]; exact blk_alloc (blk_new1 _ _ _) _)
  have BP := Aside0.mk (show WS.heap[(w4.heap.size + 1 + 1)]? = some (.cells #[.int .i64 2, .int .i64 0, .int .i64 0, .int .i64 0, .int .i64 2] 3 (0, 0)) by rw [hWS]; exact Aid_new2 _ _ _ _)
  have m0_ := Aside0.mk (Kd.R_below (by (with_reducible repeat (first | apply Kd.R_alloc | apply Kd.R_drewN | apply Kd.R_drew)); exact RL.out) (by rw [hWS]; exact below_alloc (below_alloc (below_alloc (Below.refl _ _) _) _) _ : Below w4.heap.size w4 WS))
  have m1_ := Aside0.mk (blk_below (g := w1.heap.size) (o := (.cells #[.int .i64 0, .int .i64 0] 26 (0, 0))) (by (with_reducible repeat (first | refine blk_drewN ?_ _ | refine blk_drew ?_ | refine blk_alloc ?_ _)); exact BL.out) (by rw [hWS]; exact below_alloc (below_alloc (below_alloc (Below.refl _ _) _) _) _ : Below w4.heap.size w4 WS))
  have m2_ := Aside0.mk (Kd.R_below (by (with_reducible repeat (first | apply Kd.R_alloc | apply Kd.R_drewN | apply Kd.R_drew)); exact RM.out) (by rw [hWS]; exact below_alloc (below_alloc (below_alloc (Below.refl _ _) _) _) _ : Below w4.heap.size w4 WS))
  have m3_ := Aside0.mk (blk_below (g := w2.heap.size) (o := (.cells #[.int .i64 0, .int .i64 0] 26 (0, 0))) (by (with_reducible repeat (first | refine blk_drewN ?_ _ | refine blk_drew ?_ | refine blk_alloc ?_ _)); exact BM.out) (by rw [hWS]; exact below_alloc (below_alloc (below_alloc (Below.refl _ _) _) _) _ : Below w4.heap.size w4 WS))
  have m4_ := Aside0.mk (Kd.R_below (by (with_reducible repeat (first | apply Kd.R_alloc | apply Kd.R_drewN | apply Kd.R_drew)); exact RN.out) (by rw [hWS]; exact below_alloc (below_alloc (below_alloc (Below.refl _ _) _) _) _ : Below w4.heap.size w4 WS))
  have m5_ := Aside0.mk (blk_below (g := w3.heap.size) (o := (.cells #[.int .i64 0, .int .i64 0] 26 (0, 0))) (by (with_reducible repeat (first | refine blk_drewN ?_ _ | refine blk_drew ?_ | refine blk_alloc ?_ _)); exact BN.out) (by rw [hWS]; exact below_alloc (below_alloc (below_alloc (Below.refl _ _) _) _) _ : Below w4.heap.size w4 WS))
  have m6_ := Aside0.mk (Kd.R_below (by (with_reducible repeat (first | apply Kd.R_alloc | apply Kd.R_drewN | apply Kd.R_drew)); exact RO.out) (by rw [hWS]; exact below_alloc (below_alloc (below_alloc (Below.refl _ _) _) _) _ : Below w4.heap.size w4 WS))
  have mb_ : Below w.heap.size w WS := by rw [hWS]; exact below_alloc (below_alloc (below_alloc HB.out _) _) _
  clear HB n0_ RL BL RM BM RN BN RO
  have RL := m0_
  have BL := m1_
  have RM := m2_
  have BM := m3_
  have RN := m4_
  have BN := m5_
  have RO := m6_
  have HB := Aside0.mk mb_
  clear mb_ m0_ m1_ m2_ m3_ m4_ m5_ m6_
  rw [← hWS]
  clear hWS
  go_loopw [11] (fun v11 wr => ∃ j : Nat, j ≤ 5 ∧ v11 = .int .i64 j ∧ Aside0 (Below WS.heap.size WS wr)) (fun v _ => 5 - (intOf v).toNat)
  case atStart => exact ⟨0, by omega, rfl, ⟨Below.refl _ _⟩⟩
  case round =>
    obtain ⟨j, hj, rfl, HW⟩ := hrel
    have BTr := Aside0.mk (blk_below (g := (w4.heap.size + 1)) (o := (.cells #[.string (⟨#[112, 60, 45, 113]⟩ : ByteArray), .string (⟨#[80]⟩ : ByteArray), .string (⟨#[49, 112]⟩ : ByteArray), .string (⟨#[88, 49]⟩ : ByteArray), .string (⟨#[112, 32, 35]⟩ : ByteArray)] 9 (0, 0))) BT.out HW.out)
    have BPr := Aside0.mk (blk_below (g := (w4.heap.size + 1 + 1)) (o := (.cells #[.int .i64 2, .int .i64 0, .int .i64 0, .int .i64 0, .int .i64 2] 3 (0, 0))) BP.out HW.out)
    have HBr := Aside0.mk (below_step HB.out HW.out)
    by_cases h5 : j = 5
    · subst h5
      clear BTr BPr hj BT BP
      have m0_ := Aside0.mk (Kd.R_below (by (with_reducible repeat (first | apply Kd.R_alloc | apply Kd.R_drewN | apply Kd.R_drew)); exact RL.out) HW.out)
      have m1_ := Aside0.mk (blk_below (g := w1.heap.size) (o := (.cells #[.int .i64 0, .int .i64 0] 26 (0, 0))) (by (with_reducible repeat (first | refine blk_drewN ?_ _ | refine blk_drew ?_ | refine blk_alloc ?_ _)); exact BL.out) HW.out)
      have m2_ := Aside0.mk (Kd.R_below (by (with_reducible repeat (first | apply Kd.R_alloc | apply Kd.R_drewN | apply Kd.R_drew)); exact RM.out) HW.out)
      have m3_ := Aside0.mk (blk_below (g := w2.heap.size) (o := (.cells #[.int .i64 0, .int .i64 0] 26 (0, 0))) (by (with_reducible repeat (first | refine blk_drewN ?_ _ | refine blk_drew ?_ | refine blk_alloc ?_ _)); exact BM.out) HW.out)
      have m4_ := Aside0.mk (Kd.R_below (by (with_reducible repeat (first | apply Kd.R_alloc | apply Kd.R_drewN | apply Kd.R_drew)); exact RN.out) HW.out)
      have m5_ := Aside0.mk (blk_below (g := w3.heap.size) (o := (.cells #[.int .i64 0, .int .i64 0] 26 (0, 0))) (by (with_reducible repeat (first | refine blk_drewN ?_ _ | refine blk_drew ?_ | refine blk_alloc ?_ _)); exact BN.out) HW.out)
      have m6_ := Aside0.mk (Kd.R_below (by (with_reducible repeat (first | apply Kd.R_alloc | apply Kd.R_drewN | apply Kd.R_drew)); exact RO.out) HW.out)
      have m7_ := Aside0.mk (blk_below (g := w4.heap.size) (o := (.cells #[.int .i64 0, .int .i64 0] 26 (0, 0))) (by (with_reducible repeat (first | refine blk_drewN ?_ _ | refine blk_drew ?_ | refine blk_alloc ?_ _)); exact BO.out) HW.out)
      clear HB HW RL BL RM BM RN BN RO BO
      have RL := m0_
      have BL := m1_
      have RM := m2_
      have BM := m3_
      have RN := m4_
      have BN := m5_
      have RO := m6_
      have BO := m7_
      have HB := HBr
      clear HBr m0_ m1_ m2_ m3_ m4_ m5_ m6_ m7_
      go_wp2_with fail
      refine (lexis_Sort.calls 40 (⟨#[45, 62]⟩ : ByteArray) 0 true _ ks0).mono ?_
      rintro e w5 ⟨rfl, hb⟩
      have n0_ := Aside0.mk (Kd.R_below (by (with_reducible repeat (first | apply Kd.R_alloc | apply Kd.R_drewN | apply Kd.R_drew)); exact RL.out) hb)
      have n1_ := Aside0.mk (blk_below (g := w1.heap.size) (o := (.cells #[.int .i64 0, .int .i64 0] 26 (0, 0))) (by (with_reducible repeat (first | refine blk_drewN ?_ _ | refine blk_drew ?_ | refine blk_alloc ?_ _)); exact BL.out) hb)
      have n2_ := Aside0.mk (Kd.R_below (by (with_reducible repeat (first | apply Kd.R_alloc | apply Kd.R_drewN | apply Kd.R_drew)); exact RM.out) hb)
      have n3_ := Aside0.mk (blk_below (g := w2.heap.size) (o := (.cells #[.int .i64 0, .int .i64 0] 26 (0, 0))) (by (with_reducible repeat (first | refine blk_drewN ?_ _ | refine blk_drew ?_ | refine blk_alloc ?_ _)); exact BM.out) hb)
      have n4_ := Aside0.mk (Kd.R_below (by (with_reducible repeat (first | apply Kd.R_alloc | apply Kd.R_drewN | apply Kd.R_drew)); exact RN.out) hb)
      have n5_ := Aside0.mk (blk_below (g := w3.heap.size) (o := (.cells #[.int .i64 0, .int .i64 0] 26 (0, 0))) (by (with_reducible repeat (first | refine blk_drewN ?_ _ | refine blk_drew ?_ | refine blk_alloc ?_ _)); exact BN.out) hb)
      have n6_ := Aside0.mk (Kd.R_below (by (with_reducible repeat (first | apply Kd.R_alloc | apply Kd.R_drewN | apply Kd.R_drew)); exact RO.out) hb)
      have n7_ := Aside0.mk (blk_below (g := w4.heap.size) (o := (.cells #[.int .i64 0, .int .i64 0] 26 (0, 0))) (by (with_reducible repeat (first | refine blk_drewN ?_ _ | refine blk_drew ?_ | refine blk_alloc ?_ _)); exact BO.out) hb)
      have nb_ := Aside0.mk (below_step (by repeat (first | (with_reducible first | exact HB.out | apply below_alloc | apply pw_below_drewN | apply below_drew1) | exact HB.out)) hb)
      clear hb
      clear HB RL BL RM BM RN BN RO BO
      have RL := n0_
      have BL := n1_
      have RM := n2_
      have BM := n3_
      have RN := n4_
      have BN := n5_
      have RO := n6_
      have BO := n7_
      have HB := nb_
      clear nb_ n0_ n1_ n2_ n3_ n4_ n5_ n6_ n7_ 
      go_wp2_with fail
      refine (lexis_Sort.calls 40 (⟨#[85]⟩ : ByteArray) 1 true _ ks1).mono ?_
      rintro e w6 ⟨rfl, hb⟩
      have n0_ := Aside0.mk (Kd.R_below (by (with_reducible repeat (first | apply Kd.R_alloc | apply Kd.R_drewN | apply Kd.R_drew)); exact RL.out) hb)
      have n1_ := Aside0.mk (blk_below (g := w1.heap.size) (o := (.cells #[.int .i64 0, .int .i64 0] 26 (0, 0))) (by (with_reducible repeat (first | refine blk_drewN ?_ _ | refine blk_drew ?_ | refine blk_alloc ?_ _)); exact BL.out) hb)
      have n2_ := Aside0.mk (Kd.R_below (by (with_reducible repeat (first | apply Kd.R_alloc | apply Kd.R_drewN | apply Kd.R_drew)); exact RM.out) hb)
      have n3_ := Aside0.mk (blk_below (g := w2.heap.size) (o := (.cells #[.int .i64 0, .int .i64 0] 26 (0, 0))) (by (with_reducible repeat (first | refine blk_drewN ?_ _ | refine blk_drew ?_ | refine blk_alloc ?_ _)); exact BM.out) hb)
      have n4_ := Aside0.mk (Kd.R_below (by (with_reducible repeat (first | apply Kd.R_alloc | apply Kd.R_drewN | apply Kd.R_drew)); exact RN.out) hb)
      have n5_ := Aside0.mk (blk_below (g := w3.heap.size) (o := (.cells #[.int .i64 0, .int .i64 0] 26 (0, 0))) (by (with_reducible repeat (first | refine blk_drewN ?_ _ | refine blk_drew ?_ | refine blk_alloc ?_ _)); exact BN.out) hb)
      have n6_ := Aside0.mk (Kd.R_below (by (with_reducible repeat (first | apply Kd.R_alloc | apply Kd.R_drewN | apply Kd.R_drew)); exact RO.out) hb)
      have n7_ := Aside0.mk (blk_below (g := w4.heap.size) (o := (.cells #[.int .i64 0, .int .i64 0] 26 (0, 0))) (by (with_reducible repeat (first | refine blk_drewN ?_ _ | refine blk_drew ?_ | refine blk_alloc ?_ _)); exact BO.out) hb)
      have nb_ := Aside0.mk (below_step (by repeat (first | (with_reducible first | exact HB.out | apply below_alloc | apply pw_below_drewN | apply below_drew1) | exact HB.out)) hb)
      clear hb
      clear HB RL BL RM BM RN BN RO BO
      have RL := n0_
      have BL := n1_
      have RM := n2_
      have BM := n3_
      have RN := n4_
      have BN := n5_
      have RO := n6_
      have BO := n7_
      have HB := nb_
      clear nb_ n0_ n1_ n2_ n3_ n4_ n5_ n6_ n7_ 
      go_wp2_with fail
      refine (lexis_Sort.calls 40 (⟨#[117]⟩ : ByteArray) 2 true _ ks2).mono ?_
      rintro e w7 ⟨rfl, hb⟩
      have n0_ := Aside0.mk (Kd.R_below (by (with_reducible repeat (first | apply Kd.R_alloc | apply Kd.R_drewN | apply Kd.R_drew)); exact RL.out) hb)
      have n1_ := Aside0.mk (blk_below (g := w1.heap.size) (o := (.cells #[.int .i64 0, .int .i64 0] 26 (0, 0))) (by (with_reducible repeat (first | refine blk_drewN ?_ _ | refine blk_drew ?_ | refine blk_alloc ?_ _)); exact BL.out) hb)
      have n2_ := Aside0.mk (Kd.R_below (by (with_reducible repeat (first | apply Kd.R_alloc | apply Kd.R_drewN | apply Kd.R_drew)); exact RM.out) hb)
      have n3_ := Aside0.mk (blk_below (g := w2.heap.size) (o := (.cells #[.int .i64 0, .int .i64 0] 26 (0, 0))) (by (with_reducible repeat (first | refine blk_drewN ?_ _ | refine blk_drew ?_ | refine blk_alloc ?_ _)); exact BM.out) hb)
      have n4_ := Aside0.mk (Kd.R_below (by (with_reducible repeat (first | apply Kd.R_alloc | apply Kd.R_drewN | apply Kd.R_drew)); exact RN.out) hb)
      have n5_ := Aside0.mk (blk_below (g := w3.heap.size) (o := (.cells #[.int .i64 0, .int .i64 0] 26 (0, 0))) (by (with_reducible repeat (first | refine blk_drewN ?_ _ | refine blk_drew ?_ | refine blk_alloc ?_ _)); exact BN.out) hb)
      have n6_ := Aside0.mk (Kd.R_below (by (with_reducible repeat (first | apply Kd.R_alloc | apply Kd.R_drewN | apply Kd.R_drew)); exact RO.out) hb)
      have n7_ := Aside0.mk (blk_below (g := w4.heap.size) (o := (.cells #[.int .i64 0, .int .i64 0] 26 (0, 0))) (by (with_reducible repeat (first | refine blk_drewN ?_ _ | refine blk_drew ?_ | refine blk_alloc ?_ _)); exact BO.out) hb)
      have nb_ := Aside0.mk (below_step (by repeat (first | (with_reducible first | exact HB.out | apply below_alloc | apply pw_below_drewN | apply below_drew1) | exact HB.out)) hb)
      clear hb
      clear HB RL BL RM BM RN BN RO BO
      have RL := n0_
      have BL := n1_
      have RM := n2_
      have BM := n3_
      have RN := n4_
      have BN := n5_
      have RO := n6_
      have BO := n7_
      have HB := nb_
      clear nb_ n0_ n1_ n2_ n3_ n4_ n5_ n6_ n7_ 
      go_wp2_with fail
      refine (lexis_Sort.calls 40 (⟨#[116, 114, 117, 101, 88]⟩ : ByteArray) 0 false _ ks3).mono ?_
      rintro e w8 ⟨rfl, hb⟩
      have n0_ := Aside0.mk (Kd.R_below (by (with_reducible repeat (first | apply Kd.R_alloc | apply Kd.R_drewN | apply Kd.R_drew)); exact RL.out) hb)
      have n1_ := Aside0.mk (blk_below (g := w1.heap.size) (o := (.cells #[.int .i64 0, .int .i64 0] 26 (0, 0))) (by (with_reducible repeat (first | refine blk_drewN ?_ _ | refine blk_drew ?_ | refine blk_alloc ?_ _)); exact BL.out) hb)
      have n2_ := Aside0.mk (Kd.R_below (by (with_reducible repeat (first | apply Kd.R_alloc | apply Kd.R_drewN | apply Kd.R_drew)); exact RM.out) hb)
      have n3_ := Aside0.mk (blk_below (g := w2.heap.size) (o := (.cells #[.int .i64 0, .int .i64 0] 26 (0, 0))) (by (with_reducible repeat (first | refine blk_drewN ?_ _ | refine blk_drew ?_ | refine blk_alloc ?_ _)); exact BM.out) hb)
      have n4_ := Aside0.mk (Kd.R_below (by (with_reducible repeat (first | apply Kd.R_alloc | apply Kd.R_drewN | apply Kd.R_drew)); exact RN.out) hb)
      have n5_ := Aside0.mk (blk_below (g := w3.heap.size) (o := (.cells #[.int .i64 0, .int .i64 0] 26 (0, 0))) (by (with_reducible repeat (first | refine blk_drewN ?_ _ | refine blk_drew ?_ | refine blk_alloc ?_ _)); exact BN.out) hb)
      have n6_ := Aside0.mk (Kd.R_below (by (with_reducible repeat (first | apply Kd.R_alloc | apply Kd.R_drewN | apply Kd.R_drew)); exact RO.out) hb)
      have n7_ := Aside0.mk (blk_below (g := w4.heap.size) (o := (.cells #[.int .i64 0, .int .i64 0] 26 (0, 0))) (by (with_reducible repeat (first | refine blk_drewN ?_ _ | refine blk_drew ?_ | refine blk_alloc ?_ _)); exact BO.out) hb)
      have nb_ := Aside0.mk (below_step (by repeat (first | (with_reducible first | exact HB.out | apply below_alloc | apply pw_below_drewN | apply below_drew1) | exact HB.out)) hb)
      clear hb
      clear HB RL BL RM BM RN BN RO BO
      have RL := n0_
      have BL := n1_
      have RM := n2_
      have BM := n3_
      have RN := n4_
      have BN := n5_
      have RO := n6_
      have BO := n7_
      have HB := nb_
      clear nb_ n0_ n1_ n2_ n3_ n4_ n5_ n6_ n7_ 
      go_wp2_with fail
      refine (lexis_Sort.calls 40 (⟨#[]⟩ : ByteArray) 0 false _ ks4).mono ?_
      rintro e w9 ⟨rfl, hb⟩
      have n0_ := Aside0.mk (Kd.R_below (by (with_reducible repeat (first | apply Kd.R_alloc | apply Kd.R_drewN | apply Kd.R_drew)); exact RL.out) hb)
      have n1_ := Aside0.mk (blk_below (g := w1.heap.size) (o := (.cells #[.int .i64 0, .int .i64 0] 26 (0, 0))) (by (with_reducible repeat (first | refine blk_drewN ?_ _ | refine blk_drew ?_ | refine blk_alloc ?_ _)); exact BL.out) hb)
      have n2_ := Aside0.mk (Kd.R_below (by (with_reducible repeat (first | apply Kd.R_alloc | apply Kd.R_drewN | apply Kd.R_drew)); exact RM.out) hb)
      have n3_ := Aside0.mk (blk_below (g := w2.heap.size) (o := (.cells #[.int .i64 0, .int .i64 0] 26 (0, 0))) (by (with_reducible repeat (first | refine blk_drewN ?_ _ | refine blk_drew ?_ | refine blk_alloc ?_ _)); exact BM.out) hb)
      have n4_ := Aside0.mk (Kd.R_below (by (with_reducible repeat (first | apply Kd.R_alloc | apply Kd.R_drewN | apply Kd.R_drew)); exact RN.out) hb)
      have n5_ := Aside0.mk (blk_below (g := w3.heap.size) (o := (.cells #[.int .i64 0, .int .i64 0] 26 (0, 0))) (by (with_reducible repeat (first | refine blk_drewN ?_ _ | refine blk_drew ?_ | refine blk_alloc ?_ _)); exact BN.out) hb)
      have n6_ := Aside0.mk (Kd.R_below (by (with_reducible repeat (first | apply Kd.R_alloc | apply Kd.R_drewN | apply Kd.R_drew)); exact RO.out) hb)
      have n7_ := Aside0.mk (blk_below (g := w4.heap.size) (o := (.cells #[.int .i64 0, .int .i64 0] 26 (0, 0))) (by (with_reducible repeat (first | refine blk_drewN ?_ _ | refine blk_drew ?_ | refine blk_alloc ?_ _)); exact BO.out) hb)
      have nb_ := Aside0.mk (below_step (by repeat (first | (with_reducible first | exact HB.out | apply below_alloc | apply pw_below_drewN | apply below_drew1) | exact HB.out)) hb)
      clear hb
      clear HB RL BL RM BM RN BN RO BO
      have RL := n0_
      have BL := n1_
      have RM := n2_
      have BM := n3_
      have RN := n4_
      have BN := n5_
      have RO := n6_
      have BO := n7_
      have HB := nb_
      clear nb_ n0_ n1_ n2_ n3_ n4_ n5_ n6_ n7_ 
      obtain ⟨AL, cL, eL, hcL, hCL⟩ := Kd.R_reads RL.out
      cases eL
      obtain ⟨AM, cM, eM, hcM, hCM⟩ := Kd.R_reads RM.out
      cases eM
      obtain ⟨AO, cO, eO, hcO, hCO⟩ := Kd.R_reads RO.out
      cases eO
      obtain ⟨AN, cN, eN, hcN, hCN⟩ := Kd.R_reads RN.out
      cases eN
      obtain ⟨adM, eM, hzM0, hzM1, hzM2⟩ := at_T31 hCM 1 (by decide) (by decide)
      obtain ⟨adO, eO, hzO0, hzO1, hzO2⟩ := at_T31 hCO 0 (by decide) (by decide)
      cases eM
      cases eO
      have hm1 : w9.cell? ⟨adM.block, adM.off + 3 + 1, none⟩ = some (.string (⟨#[60, 45, 62]⟩ : ByteArray)) := hzM1
      have ho0 : w9.cell? adO = some (.int .u8 2) := hzO0
      clear hzM0 hzM1 hzM2 hzO0 hzO1 hzO2
      have hzBL_0 : w9.cell? ⟨w1.heap.size, 0, none⟩ = some (.int .i64 0) := (blk_cell BL.out 0).trans rfl
      have hzBL_1 : w9.cell? ⟨w1.heap.size, 1, none⟩ = some (.int .i64 0) := (blk_cell BL.out 1).trans rfl
      have hsBL := blk_lt BL.out
      have hnBL := Nat.ne_of_lt (blk_lt BL.out)
      have hzBM_0 : w9.cell? ⟨w2.heap.size, 0, none⟩ = some (.int .i64 0) := (blk_cell BM.out 0).trans rfl
      have hzBM_1 : w9.cell? ⟨w2.heap.size, 1, none⟩ = some (.int .i64 0) := (blk_cell BM.out 1).trans rfl
      have hsBM := blk_lt BM.out
      have hnBM := Nat.ne_of_lt (blk_lt BM.out)
      have hzBN_0 : w9.cell? ⟨w3.heap.size, 0, none⟩ = some (.int .i64 0) := (blk_cell BN.out 0).trans rfl
      have hzBN_1 : w9.cell? ⟨w3.heap.size, 1, none⟩ = some (.int .i64 0) := (blk_cell BN.out 1).trans rfl
      have hsBN := blk_lt BN.out
      have hnBN := Nat.ne_of_lt (blk_lt BN.out)
      have hzBO_0 : w9.cell? ⟨w4.heap.size, 0, none⟩ = some (.int .i64 0) := (blk_cell BO.out 0).trans rfl
      have hzBO_1 : w9.cell? ⟨w4.heap.size, 1, none⟩ = some (.int .i64 0) := (blk_cell BO.out 1).trans rfl
      have hsBO := blk_lt BO.out
      have hnBO := Nat.ne_of_lt (blk_lt BO.out)
      have HCL := Aside0.mk hCL
      have HcL := Aside0.mk hcL
      clear hCL hCM hCN hCO hcL hcM hcN hcO RM RN RO
      go_wp2_with fail
      clear hzBL_0 hzBL_1 hsBL hnBL hzBM_0 hzBM_1 hsBM hnBM hzBN_0 hzBN_1 hsBN hnBN hzBO_0 hzBO_1 hsBO hnBO
      have CL9 := HCL.out
      refine (lexis_Join.calls AL cL ([⟨1, (⟨#[88]⟩ : ByteArray), 0⟩, ⟨0, (⟨#[40]⟩ : ByteArray), 1⟩, ⟨2, (⟨#[112, 49]⟩ : ByteArray), 2⟩, ⟨0, (⟨#[38]⟩ : ByteArray), 4⟩, ⟨0, (⟨#[33]⟩ : ByteArray), 5⟩, ⟨2, (⟨#[113]⟩ : ByteArray), 6⟩, ⟨0, (⟨#[41]⟩ : ByteArray), 7⟩] : List S31) _ _ CL9 HcL.out kj).mono ?_
      rintro e w10 ⟨rfl, hb⟩
      have nb_ := Aside0.mk (below_step (by repeat (first | (with_reducible first | exact HB.out | apply below_alloc | apply pw_below_drewN | apply below_drew1) | exact HB.out)) hb)
      have HCL2 := Aside0.mk (Kd.C_below (d := k31) (A := AL) (n := 7) (xs := ([⟨1, (⟨#[88]⟩ : ByteArray), 0⟩, ⟨0, (⟨#[40]⟩ : ByteArray), 1⟩, ⟨2, (⟨#[112, 49]⟩ : ByteArray), 2⟩, ⟨0, (⟨#[38]⟩ : ByteArray), 4⟩, ⟨0, (⟨#[33]⟩ : ByteArray), 5⟩, ⟨2, (⟨#[113]⟩ : ByteArray), 6⟩, ⟨0, (⟨#[41]⟩ : ByteArray), 7⟩] : List S31)) HCL.out hb)
      clear hb HCL CL9
      clear HB 
      have HB := nb_
      clear nb_  
      go_wp2_with fail
      refine (lexis_Places.calls 40 AL cL ([⟨1, (⟨#[88]⟩ : ByteArray), 0⟩, ⟨0, (⟨#[40]⟩ : ByteArray), 1⟩, ⟨2, (⟨#[112, 49]⟩ : ByteArray), 2⟩, ⟨0, (⟨#[38]⟩ : ByteArray), 4⟩, ⟨0, (⟨#[33]⟩ : ByteArray), 5⟩, ⟨2, (⟨#[113]⟩ : ByteArray), 6⟩, ⟨0, (⟨#[41]⟩ : ByteArray), 7⟩] : List S31) _ _ HCL2.out HcL.out kp).mono ?_
      rintro e w11 ⟨vP, rfl, hr, hb⟩
      have nb_ := Aside0.mk (below_step (by repeat (first | (with_reducible first | exact HB.out | apply below_alloc | apply pw_below_drewN | apply below_drew1) | exact HB.out)) hb)
      have rRP_ := Aside0.mk (hr)
      clear hr hb HCL2 HcL
      clear HB 
      have HB := nb_
      have RP := rRP_
      clear nb_  rRP_
      obtain ⟨AP, cP, rfl, hcP, hCP⟩ := Kd.R_reads RP.out
      go_wp2_with fail
      have hq := ints_C (k := .i64) (cs := #[.int .i64 0, .int .i64 1, .int .i64 2, .int .i64 4, .int .i64 5, .int .i64 6, .int .i64 7]) (xs := [0, 1, 2, 4, 5, 6, 7]) (n := 7) rfl (blk_new w11 (Obj.cells #[.int .i64 0, .int .i64 1, .int .i64 2, .int .i64 4, .int .i64 5, .int .i64 6, .int .i64 7] 3)) rfl (by decide)
      trace_state
      refine (rejoinderkit_SameInts.calls 40 AP cP [0, 1, 2, 4, 5, 6, 7] (some ⟨w11.heap.size, 0, none⟩) 7 [0, 1, 2, 4, 5, 6, 7] true _ (by repeat (first | exact hCP | refine Kd.C_alloc ?_ _ | refine Kd.C_drew ?_)) hcP hq (by decide) ki).mono ?_
      rintro e wZ ⟨rfl, hd⟩
      have HZ := Aside0.mk (below_step (by repeat (first | (with_reducible first | exact HB.out | apply below_alloc | apply pw_below_drewN | apply below_drew1) | exact HB.out)) hd.below)
      clear hd hq hCP hcP HB RP
      go_wp2
      go_ret
      exact ⟨rfl, HZ.out⟩
    · have h6 : j = 0 ∨ j = 1 ∨ j = 2 ∨ j = 3 ∨ j = 4 := by omega
      rcases h6 with rfl | rfl | rfl | rfl | rfl
      · have hzT : wr.cell? ⟨(w4.heap.size + 1), 0, none⟩ = some (.string (⟨#[112, 60, 45, 113]⟩ : ByteArray)) := (blk_cell BTr.out 0).trans rfl
        have KB := Aside0.mk HB.out
        clear HB
        have HB := HBr
        go_wp2_with fail
        refine (lexis_Words.calls 40 (⟨#[112, 60, 45, 113]⟩ : ByteArray) _ _ _ _ kb0).mono ?_
        rintro e w' ⟨vv, rfl, hr, hb⟩
        have BPq := Aside0.mk (blk_below (g := (w4.heap.size + 1 + 1)) (o := (.cells #[.int .i64 2, .int .i64 0, .int .i64 0, .int .i64 0, .int .i64 2] 3 (0, 0))) BPr.out hb)
        have HWq := Aside0.mk (below_step HW.out hb)
        clear hr hb hzT HB HBr KB BTr BPr
        have hzP : w'.cell? ⟨(w4.heap.size + 1 + 1), 0, none⟩ = some (.int .i64 2) := (blk_cell BPq.out 0).trans rfl
        have hsP := blk_lt BPq.out
        have hnP := Nat.ne_of_lt (blk_lt BPq.out)
        go_wp2_with fail
        go_region
        go_wp2_with fail
        go_roundw
        case rel => exact ⟨1, by omega, by go_num, ⟨by repeat (first | apply below_drew1 | apply below_alloc | exact HWq.out)⟩⟩
        case measure => simp [intOf]
      · have hzT : wr.cell? ⟨(w4.heap.size + 1), 1, none⟩ = some (.string (⟨#[80]⟩ : ByteArray)) := (blk_cell BTr.out 1).trans rfl
        have KB := Aside0.mk HB.out
        clear HB
        have HB := HBr
        go_wp2_with fail
        refine (lexis_Words.calls 40 (⟨#[80]⟩ : ByteArray) _ _ _ _ kb1).mono ?_
        rintro e w' ⟨vv, rfl, hr, hb⟩
        have BPq := Aside0.mk (blk_below (g := (w4.heap.size + 1 + 1)) (o := (.cells #[.int .i64 2, .int .i64 0, .int .i64 0, .int .i64 0, .int .i64 2] 3 (0, 0))) BPr.out hb)
        have HWq := Aside0.mk (below_step HW.out hb)
        clear hr hb hzT HB HBr KB BTr BPr
        have hzP : w'.cell? ⟨(w4.heap.size + 1 + 1), 1, none⟩ = some (.int .i64 0) := (blk_cell BPq.out 1).trans rfl
        have hsP := blk_lt BPq.out
        have hnP := Nat.ne_of_lt (blk_lt BPq.out)
        go_wp2_with fail
        go_region
        go_wp2_with fail
        go_roundw
        case rel => exact ⟨2, by omega, by go_num, ⟨by repeat (first | apply below_drew1 | apply below_alloc | exact HWq.out)⟩⟩
        case measure => simp [intOf]
      · have hzT : wr.cell? ⟨(w4.heap.size + 1), 2, none⟩ = some (.string (⟨#[49, 112]⟩ : ByteArray)) := (blk_cell BTr.out 2).trans rfl
        have KB := Aside0.mk HB.out
        clear HB
        have HB := HBr
        go_wp2_with fail
        refine (lexis_Words.calls 40 (⟨#[49, 112]⟩ : ByteArray) _ _ _ _ kb2).mono ?_
        rintro e w' ⟨vv, rfl, hr, hb⟩
        have BPq := Aside0.mk (blk_below (g := (w4.heap.size + 1 + 1)) (o := (.cells #[.int .i64 2, .int .i64 0, .int .i64 0, .int .i64 0, .int .i64 2] 3 (0, 0))) BPr.out hb)
        have HWq := Aside0.mk (below_step HW.out hb)
        clear hr hb hzT HB HBr KB BTr BPr
        have hzP : w'.cell? ⟨(w4.heap.size + 1 + 1), 2, none⟩ = some (.int .i64 0) := (blk_cell BPq.out 2).trans rfl
        have hsP := blk_lt BPq.out
        have hnP := Nat.ne_of_lt (blk_lt BPq.out)
        go_wp2_with fail
        go_region
        go_wp2_with fail
        go_roundw
        case rel => exact ⟨3, by omega, by go_num, ⟨by repeat (first | apply below_drew1 | apply below_alloc | exact HWq.out)⟩⟩
        case measure => simp [intOf]
      · have hzT : wr.cell? ⟨(w4.heap.size + 1), 3, none⟩ = some (.string (⟨#[88, 49]⟩ : ByteArray)) := (blk_cell BTr.out 3).trans rfl
        have KB := Aside0.mk HB.out
        clear HB
        have HB := HBr
        go_wp2_with fail
        refine (lexis_Words.calls 40 (⟨#[88, 49]⟩ : ByteArray) _ _ _ _ kb3).mono ?_
        rintro e w' ⟨vv, rfl, hr, hb⟩
        have BPq := Aside0.mk (blk_below (g := (w4.heap.size + 1 + 1)) (o := (.cells #[.int .i64 2, .int .i64 0, .int .i64 0, .int .i64 0, .int .i64 2] 3 (0, 0))) BPr.out hb)
        have HWq := Aside0.mk (below_step HW.out hb)
        clear hr hb hzT HB HBr KB BTr BPr
        have hzP : w'.cell? ⟨(w4.heap.size + 1 + 1), 3, none⟩ = some (.int .i64 0) := (blk_cell BPq.out 3).trans rfl
        have hsP := blk_lt BPq.out
        have hnP := Nat.ne_of_lt (blk_lt BPq.out)
        go_wp2_with fail
        go_region
        go_wp2_with fail
        go_roundw
        case rel => exact ⟨4, by omega, by go_num, ⟨by repeat (first | apply below_drew1 | apply below_alloc | exact HWq.out)⟩⟩
        case measure => simp [intOf]
      · have hzT : wr.cell? ⟨(w4.heap.size + 1), 4, none⟩ = some (.string (⟨#[112, 32, 35]⟩ : ByteArray)) := (blk_cell BTr.out 4).trans rfl
        have KB := Aside0.mk HB.out
        clear HB
        have HB := HBr
        go_wp2_with fail
        refine (lexis_Words.calls 40 (⟨#[112, 32, 35]⟩ : ByteArray) _ _ _ _ kb4).mono ?_
        rintro e w' ⟨vv, rfl, hr, hb⟩
        have BPq := Aside0.mk (blk_below (g := (w4.heap.size + 1 + 1)) (o := (.cells #[.int .i64 2, .int .i64 0, .int .i64 0, .int .i64 0, .int .i64 2] 3 (0, 0))) BPr.out hb)
        have HWq := Aside0.mk (below_step HW.out hb)
        clear hr hb hzT HB HBr KB BTr BPr
        have hzP : w'.cell? ⟨(w4.heap.size + 1 + 1), 4, none⟩ = some (.int .i64 2) := (blk_cell BPq.out 4).trans rfl
        have hsP := blk_lt BPq.out
        have hnP := Nat.ne_of_lt (blk_lt BPq.out)
        go_wp2_with fail
        go_region
        go_wp2_with fail
        go_roundw
        case rel => exact ⟨5, by omega, by go_num, ⟨by repeat (first | apply below_drew1 | apply below_alloc | exact HWq.out)⟩⟩
        case measure => simp [intOf]
end Go.Proofs.YtaogoabnidbbpaaDoor.PText
