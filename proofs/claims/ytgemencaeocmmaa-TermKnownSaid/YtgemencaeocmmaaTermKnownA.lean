/- The law's closed call walks through the chapter's examples. -/
import Derived.Test.YtgemencaeocmmaaTermKnownVals
import Derived.Test.YtgemencaeocmmaaAid
namespace Go.Proofs.Ytgemencaeocmmaa.PTerm
open Go.RowKit Go.Proofs.YtgemencaeocmmaaW.PrintWords Go.Proofs.YtgemencaeocmmaaW.PrintLast Go.Proofs.YtgemencaeocmmaaW.PrintMore Go.Proofs.YtgemencaeocmmaaW.Aid
set_option linter.unusedVariables false
set_option maxHeartbeats 4000000 in
set_option maxRecDepth 100000 in
theorem law_known (w : World) : Calls Try.prog 7 #[] w fun e w' => e = .returned (.bool true) ∧ Below w.heap.size w w' := by
  have HB := Aside0.mk (Below.refl w.heap.size w)
  go_enter Try.func7, Try.ntmps7
  have hmk := mk_toks
  go_wp2_with fail
  refine (rejoinderlaw03_Op.calls 15 115 _ kop15).mono ?_
  rintro e w1 ⟨rfl, hd⟩
  have nb_ := Aside0.mk (below_step (by repeat (first | (with_reducible first | exact HB.out | apply below_alloc | apply pw_below_drewN | apply below_drew1) | exact HB.out)) hd.below)
  clear hd
  clear HB 
  have HB := nb_
  clear nb_  
  go_wp2_with fail
  refine (rejoinderlaw03_Op.calls 11 111 _ kop11).mono ?_
  rintro e w2 ⟨rfl, hd⟩
  have nb_ := Aside0.mk (below_step (by repeat (first | (with_reducible first | exact HB.out | apply below_alloc | apply pw_below_drewN | apply below_drew1) | exact HB.out)) hd.below)
  clear hd
  clear HB 
  have HB := nb_
  clear nb_  
  go_wp2_with fail
  refine (rejoinderlaw03_Op.calls 6 106 _ kop6).mono ?_
  rintro e w3 ⟨rfl, hd⟩
  have nb_ := Aside0.mk (below_step (by repeat (first | (with_reducible first | exact HB.out | apply below_alloc | apply pw_below_drewN | apply below_drew1) | exact HB.out)) hd.below)
  clear hd
  clear HB 
  have HB := nb_
  clear nb_  
  go_wp2_with fail
  refine (rejoinderlaw03_Op.calls 19 119 _ kop19).mono ?_
  rintro e w4 ⟨rfl, hd⟩
  have nb_ := Aside0.mk (below_step (by repeat (first | (with_reducible first | exact HB.out | apply below_alloc | apply pw_below_drewN | apply below_drew1) | exact HB.out)) hd.below)
  clear hd
  clear HB 
  have HB := nb_
  clear nb_  
  go_wp2_with fail
  refine (rejoinderlaw03_Op.calls 17 117 _ kop17).mono ?_
  rintro e w5 ⟨rfl, hd⟩
  have nb_ := Aside0.mk (below_step (by repeat (first | (with_reducible first | exact HB.out | apply below_alloc | apply pw_below_drewN | apply below_drew1) | exact HB.out)) hd.below)
  clear hd
  clear HB 
  have HB := nb_
  clear nb_  
  go_wp2_with fail
  have hq := ints_C (k := .i64) (cs := #[.int .i64 0, .int .i64 1, .int .i64 115]) (xs := [0, 1, 115]) (n := 3) rfl (blk_new w5 (Obj.cells #[.int .i64 0, .int .i64 1, .int .i64 115] 3)) rfl (by decide)
  refine (rejoinderlaw03_T.calls 20 (some ⟨w5.heap.size, 0, none⟩) 3 [0, 1, 115] _ _ hq (by decide) kt0).mono ?_
  rintro e w6 ⟨v6, rfl, hr, hb⟩
  have nb_ := Aside0.mk (below_step (by repeat (first | (with_reducible first | exact HB.out | apply below_alloc | apply pw_below_drewN | apply below_drew1) | exact HB.out)) hb)
  have rR0_ := Aside0.mk (Kd.R_lower hr (below_size (by repeat (first | (with_reducible first | exact HB.out | apply below_alloc | apply pw_below_drewN | apply below_drew1) | exact HB.out))))
  clear hr hb hq
  clear HB 
  have HB := nb_
  have R0 := rR0_
  clear nb_  rR0_
  obtain ⟨Aa0, ca0, rfl, hca0, hCa0⟩ := Kd.R_reads R0.out
  go_wp2_with fail
  refine (term_Check.calls 60 Aa0 ca0 _ _ _ hCa0 hca0 kc0).mono ?_
  rintro e w7 ⟨rfl, hb⟩
  clear R0
  have nb_ := Aside0.mk (below_step (by repeat (first | (with_reducible first | exact HB.out | apply below_alloc | apply pw_below_drewN | apply below_drew1) | exact HB.out)) hb)
  clear hb hCa0 hca0
  clear HB 
  have HB := nb_
  clear nb_  
  go_wp2_with fail
  have hq := ints_C (k := .i64) (cs := #[.int .i64 0]) (xs := [0]) (n := 1) rfl (blk_new w7 (Obj.cells #[.int .i64 0] 3)) rfl (by decide)
  refine (rejoinderlaw03_T.calls 20 (some ⟨w7.heap.size, 0, none⟩) 1 [0] _ _ hq (by decide) kt1).mono ?_
  rintro e w8 ⟨v8, rfl, hr, hb⟩
  have nb_ := Aside0.mk (below_step (by repeat (first | (with_reducible first | exact HB.out | apply below_alloc | apply pw_below_drewN | apply below_drew1) | exact HB.out)) hb)
  have rR1_ := Aside0.mk (Kd.R_lower hr (below_size (by repeat (first | (with_reducible first | exact HB.out | apply below_alloc | apply pw_below_drewN | apply below_drew1) | exact HB.out))))
  clear hr hb hq
  clear HB 
  have HB := nb_
  have R1 := rR1_
  clear nb_  rR1_
  obtain ⟨Aa1, ca1, rfl, hca1, hCa1⟩ := Kd.R_reads R1.out
  go_wp2_with fail
  refine (term_Check.calls 60 Aa1 ca1 _ _ _ hCa1 hca1 kc1).mono ?_
  rintro e w9 ⟨rfl, hb⟩
  clear R1
  have nb_ := Aside0.mk (below_step (by repeat (first | (with_reducible first | exact HB.out | apply below_alloc | apply pw_below_drewN | apply below_drew1) | exact HB.out)) hb)
  clear hb hCa1 hca1
  clear HB 
  have HB := nb_
  clear nb_  
  go_wp2_with fail
  refine (term_Check.calls 60 none 0 [] _ _ (Kd.C_nil _ _) (Nat.le_refl _) kc2).mono ?_
  rintro e w10 ⟨rfl, hb⟩
  have nb_ := Aside0.mk (below_step (by repeat (first | (with_reducible first | exact HB.out | apply below_alloc | apply pw_below_drewN | apply below_drew1) | exact HB.out)) hb)
  clear hb
  clear HB 
  have HB := nb_
  clear nb_  
  go_wp2_with fail
  have hq := ints_C (k := .i64) (cs := #[.int .i64 0, .int .i64 115]) (xs := [0, 115]) (n := 2) rfl (blk_new w10 (Obj.cells #[.int .i64 0, .int .i64 115] 3)) rfl (by decide)
  refine (rejoinderlaw03_T.calls 20 (some ⟨w10.heap.size, 0, none⟩) 2 [0, 115] _ _ hq (by decide) kt2).mono ?_
  rintro e w11 ⟨v11, rfl, hr, hb⟩
  have nb_ := Aside0.mk (below_step (by repeat (first | (with_reducible first | exact HB.out | apply below_alloc | apply pw_below_drewN | apply below_drew1) | exact HB.out)) hb)
  have rR2_ := Aside0.mk (Kd.R_lower hr (below_size (by repeat (first | (with_reducible first | exact HB.out | apply below_alloc | apply pw_below_drewN | apply below_drew1) | exact HB.out))))
  clear hr hb hq
  clear HB 
  have HB := nb_
  have R2 := rR2_
  clear nb_  rR2_
  obtain ⟨Aa2, ca2, rfl, hca2, hCa2⟩ := Kd.R_reads R2.out
  go_wp2_with fail
  refine (term_Check.calls 60 Aa2 ca2 _ _ _ hCa2 hca2 kc3).mono ?_
  rintro e w12 ⟨rfl, hb⟩
  clear R2
  have nb_ := Aside0.mk (below_step (by repeat (first | (with_reducible first | exact HB.out | apply below_alloc | apply pw_below_drewN | apply below_drew1) | exact HB.out)) hb)
  clear hb hCa2 hca2
  clear HB 
  have HB := nb_
  clear nb_  
  go_wp2_with fail
  have hq := ints_C (k := .i64) (cs := #[.int .i64 0, .int .i64 1]) (xs := [0, 1]) (n := 2) rfl (blk_new w12 (Obj.cells #[.int .i64 0, .int .i64 1] 3)) rfl (by decide)
  refine (rejoinderlaw03_T.calls 20 (some ⟨w12.heap.size, 0, none⟩) 2 [0, 1] _ _ hq (by decide) kt3).mono ?_
  rintro e w13 ⟨v13, rfl, hr, hb⟩
  have nb_ := Aside0.mk (below_step (by repeat (first | (with_reducible first | exact HB.out | apply below_alloc | apply pw_below_drewN | apply below_drew1) | exact HB.out)) hb)
  have rR3_ := Aside0.mk (Kd.R_lower hr (below_size (by repeat (first | (with_reducible first | exact HB.out | apply below_alloc | apply pw_below_drewN | apply below_drew1) | exact HB.out))))
  clear hr hb hq
  clear HB 
  have HB := nb_
  have R3 := rR3_
  clear nb_  rR3_
  obtain ⟨Aa3, ca3, rfl, hca3, hCa3⟩ := Kd.R_reads R3.out
  go_wp2_with fail
  refine (term_Check.calls 60 Aa3 ca3 _ _ _ hCa3 hca3 kc4).mono ?_
  rintro e w14 ⟨rfl, hb⟩
  clear R3
  have nb_ := Aside0.mk (below_step (by repeat (first | (with_reducible first | exact HB.out | apply below_alloc | apply pw_below_drewN | apply below_drew1) | exact HB.out)) hb)
  clear hb hCa3 hca3
  clear HB 
  have HB := nb_
  clear nb_  
  go_wp2_with fail
  have hq := ints_C (k := .i64) (cs := #[.int .i64 0, .int .i64 119]) (xs := [0, 119]) (n := 2) rfl (blk_new w14 (Obj.cells #[.int .i64 0, .int .i64 119] 3)) rfl (by decide)
  refine (rejoinderlaw03_T.calls 20 (some ⟨w14.heap.size, 0, none⟩) 2 [0, 119] _ _ hq (by decide) kt4).mono ?_
  rintro e w15 ⟨v15, rfl, hr, hb⟩
  have nb_ := Aside0.mk (below_step (by repeat (first | (with_reducible first | exact HB.out | apply below_alloc | apply pw_below_drewN | apply below_drew1) | exact HB.out)) hb)
  have rR4_ := Aside0.mk (Kd.R_lower hr (below_size (by repeat (first | (with_reducible first | exact HB.out | apply below_alloc | apply pw_below_drewN | apply below_drew1) | exact HB.out))))
  clear hr hb hq
  clear HB 
  have HB := nb_
  have R4 := rR4_
  clear nb_  rR4_
  obtain ⟨Aa4, ca4, rfl, hca4, hCa4⟩ := Kd.R_reads R4.out
  go_wp2_with fail
  refine (term_Check.calls 60 Aa4 ca4 _ _ _ hCa4 hca4 kc5).mono ?_
  rintro e w16 ⟨rfl, hb⟩
  clear R4
  have nb_ := Aside0.mk (below_step (by repeat (first | (with_reducible first | exact HB.out | apply below_alloc | apply pw_below_drewN | apply below_drew1) | exact HB.out)) hb)
  clear hb hCa4 hca4
  clear HB 
  have HB := nb_
  clear nb_  
  go_wp2_with fail
  refine (rejoinderlaw03_Op.calls 23 123 _ kop23).mono ?_
  rintro e w17 ⟨rfl, hd⟩
  have nb_ := Aside0.mk (below_step (by repeat (first | (with_reducible first | exact HB.out | apply below_alloc | apply pw_below_drewN | apply below_drew1) | exact HB.out)) hd.below)
  clear hd
  clear HB 
  have HB := nb_
  clear nb_  
  go_wp2_with fail
  have hq := ints_C (k := .i64) (cs := #[.int .i64 0, .int .i64 119, .int .i64 123]) (xs := [0, 119, 123]) (n := 3) rfl (blk_new w17 (Obj.cells #[.int .i64 0, .int .i64 119, .int .i64 123] 3)) rfl (by decide)
  refine (rejoinderlaw03_T.calls 20 (some ⟨w17.heap.size, 0, none⟩) 3 [0, 119, 123] _ _ hq (by decide) kt5).mono ?_
  rintro e w18 ⟨v18, rfl, hr, hb⟩
  have nb_ := Aside0.mk (below_step (by repeat (first | (with_reducible first | exact HB.out | apply below_alloc | apply pw_below_drewN | apply below_drew1) | exact HB.out)) hb)
  have rR5_ := Aside0.mk (Kd.R_lower hr (below_size (by repeat (first | (with_reducible first | exact HB.out | apply below_alloc | apply pw_below_drewN | apply below_drew1) | exact HB.out))))
  clear hr hb hq
  clear HB 
  have HB := nb_
  have R5 := rR5_
  clear nb_  rR5_
  obtain ⟨Aa5, ca5, rfl, hca5, hCa5⟩ := Kd.R_reads R5.out
  go_wp2_with fail
  refine (term_Path.calls 60 Aa5 ca5 _ _ _ hCa5 hca5 kp0).mono ?_
  rintro e w19 ⟨rfl, hb⟩
  clear R5
  have nb_ := Aside0.mk (below_step (by repeat (first | (with_reducible first | exact HB.out | apply below_alloc | apply pw_below_drewN | apply below_drew1) | exact HB.out)) hb)
  clear hb hCa5 hca5
  clear HB 
  have HB := nb_
  clear nb_  
  go_wp2_with fail
  refine (rejoinderlaw03_Op.calls 7 107 _ kop7).mono ?_
  rintro e w20 ⟨rfl, hd⟩
  have nb_ := Aside0.mk (below_step (by repeat (first | (with_reducible first | exact HB.out | apply below_alloc | apply pw_below_drewN | apply below_drew1) | exact HB.out)) hd.below)
  clear hd
  clear HB 
  have HB := nb_
  clear nb_  
  go_wp2_with fail
  have hq := ints_C (k := .i64) (cs := #[.int .i64 0, .int .i64 107, .int .i64 119, .int .i64 1, .int .i64 117]) (xs := [0, 107, 119, 1, 117]) (n := 5) rfl (blk_new w20 (Obj.cells #[.int .i64 0, .int .i64 107, .int .i64 119, .int .i64 1, .int .i64 117] 3)) rfl (by decide)
  refine (rejoinderlaw03_T.calls 20 (some ⟨w20.heap.size, 0, none⟩) 5 [0, 107, 119, 1, 117] _ _ hq (by decide) kt6).mono ?_
  rintro e w21 ⟨v21, rfl, hr, hb⟩
  have nb_ := Aside0.mk (below_step (by repeat (first | (with_reducible first | exact HB.out | apply below_alloc | apply pw_below_drewN | apply below_drew1) | exact HB.out)) hb)
  have rR6_ := Aside0.mk (Kd.R_lower hr (below_size (by repeat (first | (with_reducible first | exact HB.out | apply below_alloc | apply pw_below_drewN | apply below_drew1) | exact HB.out))))
  clear hr hb hq
  clear HB 
  have HB := nb_
  have R6 := rR6_
  clear nb_  rR6_
  obtain ⟨Aa6, ca6, rfl, hca6, hCa6⟩ := Kd.R_reads R6.out
  go_wp2_with fail
  refine (term_Check.calls 60 Aa6 ca6 _ _ _ hCa6 hca6 kc6).mono ?_
  rintro e w22 ⟨rfl, hb⟩
  clear R6
  have nb_ := Aside0.mk (below_step (by repeat (first | (with_reducible first | exact HB.out | apply below_alloc | apply pw_below_drewN | apply below_drew1) | exact HB.out)) hb)
  clear hb hCa6 hca6
  clear HB 
  have HB := nb_
  clear nb_  
  go_wp2_with fail
  have hq : Kd.C k50 (w22.alloc (Obj.cells #[.int .u8 0, .int .u8 3] 50)) (some ⟨w22.heap.size, 0, none⟩) 1 [(⟨0, 3⟩ : S50)] := lit_C (d := k50) (cs := #[.int .u8 0, .int .u8 3]) (reps_cons (p := (⟨0, 3⟩ : S50)) (k50_mk _ _) rfl (reps_nil _ _)) (blk_new _ _) rfl (by decide)
  refine (term_Check.calls 60 _ 1 [⟨0, 3⟩] _ _ hq (by decide) ko0).mono ?_
  rintro e w23 ⟨rfl, hb⟩
  have nb_ := Aside0.mk (below_step (by repeat (first | (with_reducible first | exact HB.out | apply below_alloc | apply pw_below_drewN | apply below_drew1) | exact HB.out)) hb)
  clear hb hq
  clear HB 
  have HB := nb_
  clear nb_  
  go_wp2_with fail
  have hq : Kd.C k50 (w23.alloc (Obj.cells #[.int .u8 24, .int .u8 0] 50)) (some ⟨w23.heap.size, 0, none⟩) 1 [(⟨24, 0⟩ : S50)] := lit_C (d := k50) (cs := #[.int .u8 24, .int .u8 0]) (reps_cons (p := (⟨24, 0⟩ : S50)) (k50_mk _ _) rfl (reps_nil _ _)) (blk_new _ _) rfl (by decide)
  refine (term_Check.calls 60 _ 1 [⟨24, 0⟩] _ _ hq (by decide) ko1).mono ?_
  rintro e w24 ⟨rfl, hb⟩
  have nb_ := Aside0.mk (below_step (by repeat (first | (with_reducible first | exact HB.out | apply below_alloc | apply pw_below_drewN | apply below_drew1) | exact HB.out)) hb)
  clear hb hq
  clear HB 
  have HB := nb_
  clear nb_  
  go_wp2_with fail
  have hq : Kd.C k50 (w24.alloc (Obj.cells #[.int .u8 2, .int .u8 8] 50)) (some ⟨w24.heap.size, 0, none⟩) 1 [(⟨2, 8⟩ : S50)] := lit_C (d := k50) (cs := #[.int .u8 2, .int .u8 8]) (reps_cons (p := (⟨2, 8⟩ : S50)) (k50_mk _ _) rfl (reps_nil _ _)) (blk_new _ _) rfl (by decide)
  refine (term_Check.calls 60 _ 1 [⟨2, 8⟩] _ _ hq (by decide) ko2).mono ?_
  rintro e w25 ⟨rfl, hb⟩
  have nb_ := Aside0.mk (below_step (by repeat (first | (with_reducible first | exact HB.out | apply below_alloc | apply pw_below_drewN | apply below_drew1) | exact HB.out)) hb)
  clear hb hq
  clear HB 
  have HB := nb_
  clear nb_  
  go_wp2_with fail
  have hq := ints_C (k := .i64) (cs := #[.int .i64 0, .int .i64 1, .int .i64 106, .int .i64 111]) (xs := [0, 1, 106, 111]) (n := 4) rfl (blk_new w25 (Obj.cells #[.int .i64 0, .int .i64 1, .int .i64 106, .int .i64 111] 3)) rfl (by decide)
  refine (rejoinderlaw03_T.calls 20 (some ⟨w25.heap.size, 0, none⟩) 4 [0, 1, 106, 111] _ _ hq (by decide) kt7).mono ?_
  rintro e w26 ⟨v26, rfl, hr, hb⟩
  have nb_ := Aside0.mk (below_step (by repeat (first | (with_reducible first | exact HB.out | apply below_alloc | apply pw_below_drewN | apply below_drew1) | exact HB.out)) hb)
  have rR7_ := Aside0.mk (Kd.R_lower hr (below_size (by repeat (first | (with_reducible first | exact HB.out | apply below_alloc | apply pw_below_drewN | apply below_drew1) | exact HB.out))))
  clear hr hb hq
  clear HB 
  have HB := nb_
  have R7 := rR7_
  clear nb_  rR7_
  obtain ⟨Ad, cd, rfl, hcd, hCd⟩ := Kd.R_reads R7.out
  go_wp2_with fail
  refine (term_Depths.calls 60 Ad cd _ _ _ _ hCd hcd kd).mono ?_
  rintro e w27 ⟨vd, rfl, hr, hb⟩
  clear R7
  have nb_ := Aside0.mk (below_step (by repeat (first | (with_reducible first | exact HB.out | apply below_alloc | apply pw_below_drewN | apply below_drew1) | exact HB.out)) hb)
  have rRD_ := Aside0.mk (Kd.R_lower hr (below_size (by repeat (first | (with_reducible first | exact HB.out | apply below_alloc | apply pw_below_drewN | apply below_drew1) | exact HB.out))))
  clear hr hb hCd hcd
  clear HB 
  have HB := nb_
  have RD := rRD_
  clear nb_  rRD_
  go_wp2_with fail
  refine (rejoinderlaw03_Op.calls 18 118 _ kop18).mono ?_
  rintro e w28 ⟨rfl, hd⟩
  have n0_ := Aside0.mk (Kd.R_below (by (with_reducible repeat (first | apply Kd.R_alloc | apply Kd.R_drewN | apply Kd.R_drew)); exact RD.out) hd.below)
  have nb_ := Aside0.mk (below_step (by repeat (first | (with_reducible first | exact HB.out | apply below_alloc | apply pw_below_drewN | apply below_drew1) | exact HB.out)) hd.below)
  clear hd
  clear HB RD
  have RD := n0_
  have HB := nb_
  clear nb_ n0_ 
  go_wp2_with fail
  have hq := ints_C (k := .i64) (cs := #[.int .i64 0, .int .i64 119, .int .i64 3, .int .i64 118]) (xs := [0, 119, 3, 118]) (n := 4) rfl (blk_new w28 (Obj.cells #[.int .i64 0, .int .i64 119, .int .i64 3, .int .i64 118] 3)) rfl (by decide)
  refine (rejoinderlaw03_T.calls 20 (some ⟨w28.heap.size, 0, none⟩) 4 [0, 119, 3, 118] _ _ hq (by decide) kt8).mono ?_
  rintro e w29 ⟨v29, rfl, hr, hb⟩
  have n0_ := Aside0.mk (Kd.R_below (by (with_reducible repeat (first | apply Kd.R_alloc | apply Kd.R_drewN | apply Kd.R_drew)); exact RD.out) hb)
  have nb_ := Aside0.mk (below_step (by repeat (first | (with_reducible first | exact HB.out | apply below_alloc | apply pw_below_drewN | apply below_drew1) | exact HB.out)) hb)
  have rR8_ := Aside0.mk (Kd.R_lower hr (below_size (by repeat (first | (with_reducible first | exact HB.out | apply below_alloc | apply pw_below_drewN | apply below_drew1) | exact HB.out))))
  clear hr hb hq
  clear HB RD
  have RD := n0_
  have HB := nb_
  have R8 := rR8_
  clear nb_ n0_ rR8_
  obtain ⟨Aa8, ca8, rfl, hca8, hCa8⟩ := Kd.R_reads R8.out
  go_wp2_with fail
  refine (term_Props.calls 60 Aa8 ca8 _ _ _ _ hCa8 hca8 kpr).mono ?_
  rintro e w30 ⟨rfl, hb⟩
  clear R8
  have n0_ := Aside0.mk (Kd.R_below (by (with_reducible repeat (first | apply Kd.R_alloc | apply Kd.R_drewN | apply Kd.R_drew)); exact RD.out) hb)
  have nb_ := Aside0.mk (below_step (by repeat (first | (with_reducible first | exact HB.out | apply below_alloc | apply pw_below_drewN | apply below_drew1) | exact HB.out)) hb)
  clear hb hCa8 hca8
  clear HB RD
  have RD := n0_
  have HB := nb_
  clear nb_ n0_ 
  go_wp2_with fail
  have hq := ints_C (k := .i64) (cs := #[.int .i64 0]) (xs := [0]) (n := 1) rfl (blk_new w30 (Obj.cells #[.int .i64 0] 3)) rfl (by decide)
  refine (rejoinderlaw03_T.calls 20 (some ⟨w30.heap.size, 0, none⟩) 1 [0] _ _ hq (by decide) kt1).mono ?_
  rintro e w31 ⟨v31, rfl, hr, hb⟩
  have n0_ := Aside0.mk (Kd.R_below (by (with_reducible repeat (first | apply Kd.R_alloc | apply Kd.R_drewN | apply Kd.R_drew)); exact RD.out) hb)
  have nb_ := Aside0.mk (below_step (by repeat (first | (with_reducible first | exact HB.out | apply below_alloc | apply pw_below_drewN | apply below_drew1) | exact HB.out)) hb)
  have rR9_ := Aside0.mk (Kd.R_lower hr (below_size (by repeat (first | (with_reducible first | exact HB.out | apply below_alloc | apply pw_below_drewN | apply below_drew1) | exact HB.out))))
  clear hr hb hq
  clear HB RD
  have RD := n0_
  have HB := nb_
  have R9 := rR9_
  clear nb_ n0_ rR9_
  go_wp2_with fail
  have hq := ints_C (k := .i64) (cs := #[.int .i64 1]) (xs := [1]) (n := 1) rfl (blk_new w31 (Obj.cells #[.int .i64 1] 3)) rfl (by decide)
  refine (rejoinderlaw03_T.calls 20 (some ⟨w31.heap.size, 0, none⟩) 1 [1] _ _ hq (by decide) kt9).mono ?_
  rintro e w32 ⟨v32, rfl, hr, hb⟩
  have n0_ := Aside0.mk (Kd.R_below (by (with_reducible repeat (first | apply Kd.R_alloc | apply Kd.R_drewN | apply Kd.R_drew)); exact RD.out) hb)
  have n1_ := Aside0.mk (Kd.R_below (by (with_reducible repeat (first | apply Kd.R_alloc | apply Kd.R_drewN | apply Kd.R_drew)); exact R9.out) hb)
  have nb_ := Aside0.mk (below_step (by repeat (first | (with_reducible first | exact HB.out | apply below_alloc | apply pw_below_drewN | apply below_drew1) | exact HB.out)) hb)
  have rR10_ := Aside0.mk (Kd.R_lower hr (below_size (by repeat (first | (with_reducible first | exact HB.out | apply below_alloc | apply pw_below_drewN | apply below_drew1) | exact HB.out))))
  clear hr hb hq
  clear HB RD R9
  have RD := n0_
  have R9 := n1_
  have HB := nb_
  have R10 := rR10_
  clear nb_ n0_ n1_ rR10_
  obtain ⟨AR9, cR9, rfl⟩ := Kd.R_slice R9.out
  obtain ⟨AR10, cR10, rfl⟩ := Kd.R_slice R10.out
  go_wp2_with fail
  refine (term_Bin.calls 60 15 (fun _ => True) AR9 cR9 _ (fun _ => True) AR10 cR10 _ _ _ _ (Kd.R_V R9.out) (Kd.R_V R10.out) kb0).mono ?_
  rintro e w33 ⟨v33, rfl, hr, hb⟩
  clear R9
  clear R10
  have n0_ := Aside0.mk (Kd.R_below (by (with_reducible repeat (first | apply Kd.R_alloc | apply Kd.R_drewN | apply Kd.R_drew)); exact RD.out) hb)
  have nb_ := Aside0.mk (below_step (by repeat (first | (with_reducible first | exact HB.out | apply below_alloc | apply pw_below_drewN | apply below_drew1) | exact HB.out)) hb)
  have rRB_ := Aside0.mk (Kd.R_lower hr (below_size (by repeat (first | (with_reducible first | exact HB.out | apply below_alloc | apply pw_below_drewN | apply below_drew1) | exact HB.out))))
  clear hr hb
  clear HB RD
  have RD := n0_
  have HB := nb_
  have RB := rRB_
  clear nb_ n0_ rRB_
  go_wp2_with fail
  have hq := ints_C (k := .i64) (cs := #[.int .i64 0]) (xs := [0]) (n := 1) rfl (blk_new w33 (Obj.cells #[.int .i64 0] 3)) rfl (by decide)
  refine (rejoinderlaw03_T.calls 20 (some ⟨w33.heap.size, 0, none⟩) 1 [0] _ _ hq (by decide) kt1).mono ?_
  rintro e w34 ⟨v34, rfl, hr, hb⟩
  have n0_ := Aside0.mk (Kd.R_below (by (with_reducible repeat (first | apply Kd.R_alloc | apply Kd.R_drewN | apply Kd.R_drew)); exact RD.out) hb)
  have n1_ := Aside0.mk (Kd.R_below (by (with_reducible repeat (first | apply Kd.R_alloc | apply Kd.R_drewN | apply Kd.R_drew)); exact RB.out) hb)
  have nb_ := Aside0.mk (below_step (by repeat (first | (with_reducible first | exact HB.out | apply below_alloc | apply pw_below_drewN | apply below_drew1) | exact HB.out)) hb)
  have rR11_ := Aside0.mk (Kd.R_lower hr (below_size (by repeat (first | (with_reducible first | exact HB.out | apply below_alloc | apply pw_below_drewN | apply below_drew1) | exact HB.out))))
  clear hr hb hq
  clear HB RD RB
  have RD := n0_
  have RB := n1_
  have HB := nb_
  have R11 := rR11_
  clear nb_ n0_ n1_ rR11_
  go_wp2_with fail
  have hq := ints_C (k := .i64) (cs := #[.int .i64 1]) (xs := [1]) (n := 1) rfl (blk_new w34 (Obj.cells #[.int .i64 1] 3)) rfl (by decide)
  refine (rejoinderlaw03_T.calls 20 (some ⟨w34.heap.size, 0, none⟩) 1 [1] _ _ hq (by decide) kt9).mono ?_
  rintro e w35 ⟨v35, rfl, hr, hb⟩
  have n0_ := Aside0.mk (Kd.R_below (by (with_reducible repeat (first | apply Kd.R_alloc | apply Kd.R_drewN | apply Kd.R_drew)); exact RD.out) hb)
  have n1_ := Aside0.mk (Kd.R_below (by (with_reducible repeat (first | apply Kd.R_alloc | apply Kd.R_drewN | apply Kd.R_drew)); exact RB.out) hb)
  have n2_ := Aside0.mk (Kd.R_below (by (with_reducible repeat (first | apply Kd.R_alloc | apply Kd.R_drewN | apply Kd.R_drew)); exact R11.out) hb)
  have nb_ := Aside0.mk (below_step (by repeat (first | (with_reducible first | exact HB.out | apply below_alloc | apply pw_below_drewN | apply below_drew1) | exact HB.out)) hb)
  have rR12_ := Aside0.mk (Kd.R_lower hr (below_size (by repeat (first | (with_reducible first | exact HB.out | apply below_alloc | apply pw_below_drewN | apply below_drew1) | exact HB.out))))
  clear hr hb hq
  clear HB RD RB R11
  have RD := n0_
  have RB := n1_
  have R11 := n2_
  have HB := nb_
  have R12 := rR12_
  clear nb_ n0_ n1_ n2_ rR12_
  obtain ⟨AR11, cR11, rfl⟩ := Kd.R_slice R11.out
  obtain ⟨AR12, cR12, rfl⟩ := Kd.R_slice R12.out
  go_wp2_with fail
  refine (term_Bin.calls 60 17 (fun _ => True) AR11 cR11 _ (fun _ => True) AR12 cR12 _ _ _ _ (Kd.R_V R11.out) (Kd.R_V R12.out) kb1).mono ?_
  rintro e w36 ⟨v36, rfl, hr, hb⟩
  clear R11
  clear R12
  have n0_ := Aside0.mk (Kd.R_below (by (with_reducible repeat (first | apply Kd.R_alloc | apply Kd.R_drewN | apply Kd.R_drew)); exact RD.out) hb)
  have n1_ := Aside0.mk (Kd.R_below (by (with_reducible repeat (first | apply Kd.R_alloc | apply Kd.R_drewN | apply Kd.R_drew)); exact RB.out) hb)
  have nb_ := Aside0.mk (below_step (by repeat (first | (with_reducible first | exact HB.out | apply below_alloc | apply pw_below_drewN | apply below_drew1) | exact HB.out)) hb)
  have rRB2_ := Aside0.mk (Kd.R_lower hr (below_size (by repeat (first | (with_reducible first | exact HB.out | apply below_alloc | apply pw_below_drewN | apply below_drew1) | exact HB.out))))
  clear hr hb
  clear HB RD RB
  have RD := n0_
  have RB := n1_
  have HB := nb_
  have RB2 := rRB2_
  clear nb_ n0_ n1_ rRB2_
  go_wp2_with fail
  have hq := ints_C (k := .i64) (cs := #[.int .i64 0]) (xs := [0]) (n := 1) rfl (blk_new w36 (Obj.cells #[.int .i64 0] 3)) rfl (by decide)
  refine (rejoinderlaw03_T.calls 20 (some ⟨w36.heap.size, 0, none⟩) 1 [0] _ _ hq (by decide) kt1).mono ?_
  rintro e w37 ⟨v37, rfl, hr, hb⟩
  have n0_ := Aside0.mk (Kd.R_below (by (with_reducible repeat (first | apply Kd.R_alloc | apply Kd.R_drewN | apply Kd.R_drew)); exact RD.out) hb)
  have n1_ := Aside0.mk (Kd.R_below (by (with_reducible repeat (first | apply Kd.R_alloc | apply Kd.R_drewN | apply Kd.R_drew)); exact RB.out) hb)
  have n2_ := Aside0.mk (Kd.R_below (by (with_reducible repeat (first | apply Kd.R_alloc | apply Kd.R_drewN | apply Kd.R_drew)); exact RB2.out) hb)
  have nb_ := Aside0.mk (below_step (by repeat (first | (with_reducible first | exact HB.out | apply below_alloc | apply pw_below_drewN | apply below_drew1) | exact HB.out)) hb)
  have rR13_ := Aside0.mk (Kd.R_lower hr (below_size (by repeat (first | (with_reducible first | exact HB.out | apply below_alloc | apply pw_below_drewN | apply below_drew1) | exact HB.out))))
  clear hr hb hq
  clear HB RD RB RB2
  have RD := n0_
  have RB := n1_
  have RB2 := n2_
  have HB := nb_
  have R13 := rR13_
  clear nb_ n0_ n1_ n2_ rR13_
  obtain ⟨AR13, cR13, rfl⟩ := Kd.R_slice R13.out
  go_wp2_with fail
  refine (term_Un.calls 60 11 (fun _ => True) AR13 cR13 _ _ _ _ (Kd.R_V R13.out) ku0).mono ?_
  rintro e w38 ⟨v38, rfl, hr, hb⟩
  clear R13
  have n0_ := Aside0.mk (Kd.R_below (by (with_reducible repeat (first | apply Kd.R_alloc | apply Kd.R_drewN | apply Kd.R_drew)); exact RD.out) hb)
  have n1_ := Aside0.mk (Kd.R_below (by (with_reducible repeat (first | apply Kd.R_alloc | apply Kd.R_drewN | apply Kd.R_drew)); exact RB.out) hb)
  have n2_ := Aside0.mk (Kd.R_below (by (with_reducible repeat (first | apply Kd.R_alloc | apply Kd.R_drewN | apply Kd.R_drew)); exact RB2.out) hb)
  have nb_ := Aside0.mk (below_step (by repeat (first | (with_reducible first | exact HB.out | apply below_alloc | apply pw_below_drewN | apply below_drew1) | exact HB.out)) hb)
  have rRU_ := Aside0.mk (Kd.R_lower hr (below_size (by repeat (first | (with_reducible first | exact HB.out | apply below_alloc | apply pw_below_drewN | apply below_drew1) | exact HB.out))))
  clear hr hb
  clear HB RD RB RB2
  have RD := n0_
  have RB := n1_
  have RB2 := n2_
  have HB := nb_
  have RU := rRU_
  clear nb_ n0_ n1_ n2_ rRU_
  go_wp2_with fail
  have hq := ints_C (k := .i64) (cs := #[.int .i64 0, .int .i64 1, .int .i64 111]) (xs := [0, 1, 111]) (n := 3) rfl (blk_new w38 (Obj.cells #[.int .i64 0, .int .i64 1, .int .i64 111] 3)) rfl (by decide)
  refine (rejoinderlaw03_T.calls 20 (some ⟨w38.heap.size, 0, none⟩) 3 [0, 1, 111] _ _ hq (by decide) kt10).mono ?_
  rintro e w39 ⟨v39, rfl, hr, hb⟩
  have n0_ := Aside0.mk (Kd.R_below (by (with_reducible repeat (first | apply Kd.R_alloc | apply Kd.R_drewN | apply Kd.R_drew)); exact RD.out) hb)
  have n1_ := Aside0.mk (Kd.R_below (by (with_reducible repeat (first | apply Kd.R_alloc | apply Kd.R_drewN | apply Kd.R_drew)); exact RB.out) hb)
  have n2_ := Aside0.mk (Kd.R_below (by (with_reducible repeat (first | apply Kd.R_alloc | apply Kd.R_drewN | apply Kd.R_drew)); exact RB2.out) hb)
  have n3_ := Aside0.mk (Kd.R_below (by (with_reducible repeat (first | apply Kd.R_alloc | apply Kd.R_drewN | apply Kd.R_drew)); exact RU.out) hb)
  have nb_ := Aside0.mk (below_step (by repeat (first | (with_reducible first | exact HB.out | apply below_alloc | apply pw_below_drewN | apply below_drew1) | exact HB.out)) hb)
  have rR14_ := Aside0.mk (Kd.R_lower hr (below_size (by repeat (first | (with_reducible first | exact HB.out | apply below_alloc | apply pw_below_drewN | apply below_drew1) | exact HB.out))))
  clear hr hb hq
  clear HB RD RB RB2 RU
  have RD := n0_
  have RB := n1_
  have RB2 := n2_
  have RU := n3_
  have HB := nb_
  have R14 := rR14_
  clear nb_ n0_ n1_ n2_ n3_ rR14_
  go_wp2_with fail
  have hq := ints_C (k := .i64) (cs := #[.int .i64 0, .int .i64 106]) (xs := [0, 106]) (n := 2) rfl (blk_new w39 (Obj.cells #[.int .i64 0, .int .i64 106] 3)) rfl (by decide)
  refine (rejoinderlaw03_T.calls 20 (some ⟨w39.heap.size, 0, none⟩) 2 [0, 106] _ _ hq (by decide) kt11).mono ?_
  rintro e w40 ⟨v40, rfl, hr, hb⟩
  have n0_ := Aside0.mk (Kd.R_below (by (with_reducible repeat (first | apply Kd.R_alloc | apply Kd.R_drewN | apply Kd.R_drew)); exact RD.out) hb)
  have n1_ := Aside0.mk (Kd.R_below (by (with_reducible repeat (first | apply Kd.R_alloc | apply Kd.R_drewN | apply Kd.R_drew)); exact RB.out) hb)
  have n2_ := Aside0.mk (Kd.R_below (by (with_reducible repeat (first | apply Kd.R_alloc | apply Kd.R_drewN | apply Kd.R_drew)); exact RB2.out) hb)
  have n3_ := Aside0.mk (Kd.R_below (by (with_reducible repeat (first | apply Kd.R_alloc | apply Kd.R_drewN | apply Kd.R_drew)); exact RU.out) hb)
  have n4_ := Aside0.mk (Kd.R_below (by (with_reducible repeat (first | apply Kd.R_alloc | apply Kd.R_drewN | apply Kd.R_drew)); exact R14.out) hb)
  have nb_ := Aside0.mk (below_step (by repeat (first | (with_reducible first | exact HB.out | apply below_alloc | apply pw_below_drewN | apply below_drew1) | exact HB.out)) hb)
  have rR15_ := Aside0.mk (Kd.R_lower hr (below_size (by repeat (first | (with_reducible first | exact HB.out | apply below_alloc | apply pw_below_drewN | apply below_drew1) | exact HB.out))))
  clear hr hb hq
  clear HB RD RB RB2 RU R14
  have RD := n0_
  have RB := n1_
  have RB2 := n2_
  have RU := n3_
  have R14 := n4_
  have HB := nb_
  have R15 := rR15_
  clear nb_ n0_ n1_ n2_ n3_ n4_ rR15_
  obtain ⟨AR14, cR14, rfl⟩ := Kd.R_slice R14.out
  obtain ⟨AR15, cR15, rfl⟩ := Kd.R_slice R15.out
  go_wp2_with fail
  refine (term_Put.calls 60 (fun _ => True) AR14 cR14 _ 1 (fun _ => True) AR15 cR15 _ _ _ _ (Kd.R_V R14.out) (Kd.R_V R15.out) kpu0).mono ?_
  rintro e w41 ⟨v41, rfl, hr, hb⟩
  clear R14
  clear R15
  have n0_ := Aside0.mk (Kd.R_below (by (with_reducible repeat (first | apply Kd.R_alloc | apply Kd.R_drewN | apply Kd.R_drew)); exact RD.out) hb)
  have n1_ := Aside0.mk (Kd.R_below (by (with_reducible repeat (first | apply Kd.R_alloc | apply Kd.R_drewN | apply Kd.R_drew)); exact RB.out) hb)
  have n2_ := Aside0.mk (Kd.R_below (by (with_reducible repeat (first | apply Kd.R_alloc | apply Kd.R_drewN | apply Kd.R_drew)); exact RB2.out) hb)
  have n3_ := Aside0.mk (Kd.R_below (by (with_reducible repeat (first | apply Kd.R_alloc | apply Kd.R_drewN | apply Kd.R_drew)); exact RU.out) hb)
  have nb_ := Aside0.mk (below_step (by repeat (first | (with_reducible first | exact HB.out | apply below_alloc | apply pw_below_drewN | apply below_drew1) | exact HB.out)) hb)
  have rRP0_ := Aside0.mk (Kd.R_lower hr (below_size (by repeat (first | (with_reducible first | exact HB.out | apply below_alloc | apply pw_below_drewN | apply below_drew1) | exact HB.out))))
  clear hr hb
  clear HB RD RB RB2 RU
  have RD := n0_
  have RB := n1_
  have RB2 := n2_
  have RU := n3_
  have HB := nb_
  have RP0 := rRP0_
  clear nb_ n0_ n1_ n2_ n3_ rRP0_
  go_wp2_with fail
  have hq := ints_C (k := .i64) (cs := #[.int .i64 0, .int .i64 1, .int .i64 111]) (xs := [0, 1, 111]) (n := 3) rfl (blk_new w41 (Obj.cells #[.int .i64 0, .int .i64 1, .int .i64 111] 3)) rfl (by decide)
  refine (rejoinderlaw03_T.calls 20 (some ⟨w41.heap.size, 0, none⟩) 3 [0, 1, 111] _ _ hq (by decide) kt10).mono ?_
  rintro e w42 ⟨v42, rfl, hr, hb⟩
  have n0_ := Aside0.mk (Kd.R_below (by (with_reducible repeat (first | apply Kd.R_alloc | apply Kd.R_drewN | apply Kd.R_drew)); exact RD.out) hb)
  have n1_ := Aside0.mk (Kd.R_below (by (with_reducible repeat (first | apply Kd.R_alloc | apply Kd.R_drewN | apply Kd.R_drew)); exact RB.out) hb)
  have n2_ := Aside0.mk (Kd.R_below (by (with_reducible repeat (first | apply Kd.R_alloc | apply Kd.R_drewN | apply Kd.R_drew)); exact RB2.out) hb)
  have n3_ := Aside0.mk (Kd.R_below (by (with_reducible repeat (first | apply Kd.R_alloc | apply Kd.R_drewN | apply Kd.R_drew)); exact RU.out) hb)
  have n4_ := Aside0.mk (Kd.R_below (by (with_reducible repeat (first | apply Kd.R_alloc | apply Kd.R_drewN | apply Kd.R_drew)); exact RP0.out) hb)
  have nb_ := Aside0.mk (below_step (by repeat (first | (with_reducible first | exact HB.out | apply below_alloc | apply pw_below_drewN | apply below_drew1) | exact HB.out)) hb)
  have rR16_ := Aside0.mk (Kd.R_lower hr (below_size (by repeat (first | (with_reducible first | exact HB.out | apply below_alloc | apply pw_below_drewN | apply below_drew1) | exact HB.out))))
  clear hr hb hq
  clear HB RD RB RB2 RU RP0
  have RD := n0_
  have RB := n1_
  have RB2 := n2_
  have RU := n3_
  have RP0 := n4_
  have HB := nb_
  have R16 := rR16_
  clear nb_ n0_ n1_ n2_ n3_ n4_ rR16_
  go_wp2_with fail
  have hq := ints_C (k := .i64) (cs := #[.int .i64 0]) (xs := [0]) (n := 1) rfl (blk_new w42 (Obj.cells #[.int .i64 0] 3)) rfl (by decide)
  refine (rejoinderlaw03_T.calls 20 (some ⟨w42.heap.size, 0, none⟩) 1 [0] _ _ hq (by decide) kt1).mono ?_
  rintro e w43 ⟨v43, rfl, hr, hb⟩
  have n0_ := Aside0.mk (Kd.R_below (by (with_reducible repeat (first | apply Kd.R_alloc | apply Kd.R_drewN | apply Kd.R_drew)); exact RD.out) hb)
  have n1_ := Aside0.mk (Kd.R_below (by (with_reducible repeat (first | apply Kd.R_alloc | apply Kd.R_drewN | apply Kd.R_drew)); exact RB.out) hb)
  have n2_ := Aside0.mk (Kd.R_below (by (with_reducible repeat (first | apply Kd.R_alloc | apply Kd.R_drewN | apply Kd.R_drew)); exact RB2.out) hb)
  have n3_ := Aside0.mk (Kd.R_below (by (with_reducible repeat (first | apply Kd.R_alloc | apply Kd.R_drewN | apply Kd.R_drew)); exact RU.out) hb)
  have n4_ := Aside0.mk (Kd.R_below (by (with_reducible repeat (first | apply Kd.R_alloc | apply Kd.R_drewN | apply Kd.R_drew)); exact RP0.out) hb)
  have n5_ := Aside0.mk (Kd.R_below (by (with_reducible repeat (first | apply Kd.R_alloc | apply Kd.R_drewN | apply Kd.R_drew)); exact R16.out) hb)
  have nb_ := Aside0.mk (below_step (by repeat (first | (with_reducible first | exact HB.out | apply below_alloc | apply pw_below_drewN | apply below_drew1) | exact HB.out)) hb)
  have rR17_ := Aside0.mk (Kd.R_lower hr (below_size (by repeat (first | (with_reducible first | exact HB.out | apply below_alloc | apply pw_below_drewN | apply below_drew1) | exact HB.out))))
  clear hr hb hq
  clear HB RD RB RB2 RU RP0 R16
  have RD := n0_
  have RB := n1_
  have RB2 := n2_
  have RU := n3_
  have RP0 := n4_
  have R16 := n5_
  have HB := nb_
  have R17 := rR17_
  clear nb_ n0_ n1_ n2_ n3_ n4_ n5_ rR17_
  obtain ⟨AR16, cR16, rfl⟩ := Kd.R_slice R16.out
  obtain ⟨AR17, cR17, rfl⟩ := Kd.R_slice R17.out
  go_wp2_with fail
  refine (term_Put.calls 60 (fun _ => True) AR16 cR16 _ 3 (fun _ => True) AR17 cR17 _ _ _ _ (Kd.R_V R16.out) (Kd.R_V R17.out) kpu1).mono ?_
  rintro e w44 ⟨v44, rfl, hr, hb⟩
  clear R16
  clear R17
  have n0_ := Aside0.mk (Kd.R_below (by (with_reducible repeat (first | apply Kd.R_alloc | apply Kd.R_drewN | apply Kd.R_drew)); exact RD.out) hb)
  have n1_ := Aside0.mk (Kd.R_below (by (with_reducible repeat (first | apply Kd.R_alloc | apply Kd.R_drewN | apply Kd.R_drew)); exact RB.out) hb)
  have n2_ := Aside0.mk (Kd.R_below (by (with_reducible repeat (first | apply Kd.R_alloc | apply Kd.R_drewN | apply Kd.R_drew)); exact RB2.out) hb)
  have n3_ := Aside0.mk (Kd.R_below (by (with_reducible repeat (first | apply Kd.R_alloc | apply Kd.R_drewN | apply Kd.R_drew)); exact RU.out) hb)
  have n4_ := Aside0.mk (Kd.R_below (by (with_reducible repeat (first | apply Kd.R_alloc | apply Kd.R_drewN | apply Kd.R_drew)); exact RP0.out) hb)
  have nb_ := Aside0.mk (below_step (by repeat (first | (with_reducible first | exact HB.out | apply below_alloc | apply pw_below_drewN | apply below_drew1) | exact HB.out)) hb)
  have rRP1_ := Aside0.mk (Kd.R_lower hr (below_size (by repeat (first | (with_reducible first | exact HB.out | apply below_alloc | apply pw_below_drewN | apply below_drew1) | exact HB.out))))
  clear hr hb
  clear HB RD RB RB2 RU RP0
  have RD := n0_
  have RB := n1_
  have RB2 := n2_
  have RU := n3_
  have RP0 := n4_
  have HB := nb_
  have RP1 := rRP1_
  clear nb_ n0_ n1_ n2_ n3_ n4_ rRP1_
  clear RB2
  clear RU
  clear RP1
  go_wp2_with fail
  have hq := ints_C (k := .i64) (cs := #[.int .i64 0]) (xs := [0]) (n := 1) rfl (blk_new w44 (Obj.cells #[.int .i64 0] 3)) rfl (by decide)
  refine (rejoinderlaw03_T.calls 20 (some ⟨w44.heap.size, 0, none⟩) 1 [0] _ _ hq (by decide) kt1).mono ?_
  rintro e wD ⟨vD, rfl, hr, hb⟩
  have HD := Aside0.mk (Kd.R_lower (base' := w44.heap.size) hr (by simp))
  have HBD := Aside0.mk (below_step (below_alloc (Below.refl w44.heap.size w44) _) hb)
  clear hr hb hq
  go_wp2_with fail
  go_loopw [22, 23] (fun v i wr => ∃ j : Nat, j ≤ 63 ∧ i = .int .i64 j ∧ Aside0 (Kd.R k50 50 wr w44.heap.size (fun _ => True) v (deepL j)) ∧ Aside0 (Below w44.heap.size w44 wr)) (fun _ i _ => 63 - (intOf i).toNat)
  case atStart => exact ⟨0, by omega, rfl, ⟨HD.out⟩, ⟨HBD.out⟩⟩
  case round =>
    clear HD HBD
    obtain ⟨j, hj, rfl, HD, HBD⟩ := hrel
    by_cases hlt : j < 63
    · have g1 : (j : Int) < 63 := by omega
      have HL := Aside0.mk (deepL_len j)
      go_wp2_with ((with_reducible refine gate_builtin (b := .append) (xs := #[.tmp 166, .tmp 168]) rfl ?_); at_builtin; refine Kd.R_append k50 (w0 := w44) w44.heap.size rfl (.tmp 166) (.tmp 168) 22 50 (.agg #[(.int .u8 0), (.int .u8 0)]) 2 rfl Try.underlying22 info50 rfl (by decide) (by omega) u22 (deepL j) (⟨6, 0⟩ : S50) [.int .u8 6, .int .u8 0] (fun _ => True) (fun _ => False) rfl rfl ?aP (fun _ hk => hk.elim) ?aF ?aO ?aB ?aS ?aL ?_; (case aP => exact k50_mkM _ _ _ (⟨6, 0⟩ : S50)); (case aB => exact (by repeat (first | (with_reducible first | exact HBD.out | apply below_alloc | apply pw_below_drewN | apply below_drew1) | exact HBD.out))); (case aF => exact (fun _ _ => trivial)); (case aO => exact (by (with_reducible repeat (first | apply Kd.R_alloc | apply Kd.R_drewN | apply Kd.R_drew)); exact HD.out)); (case aS => exact (below_size (by repeat (first | (with_reducible first | exact HBD.out | apply below_alloc | apply pw_below_drewN | apply below_drew1) | exact HBD.out)))); (case aL => have := HL.out; omega); intro v1 w1 ho hb hg hat; have HO := Aside0.mk ho; have HB2 := Aside0.mk hb; clear ho hb hg hat HD HBD)
      go_roundw
      case rel => exact ⟨j + 1, by omega, by go_num, ⟨HO.out⟩, ⟨HB2.out⟩⟩
      case measure => simp [intOf]; omega
    · obtain rfl : j = 63 := by omega
      clear hj hlt
      have HD1 := Aside0.mk (deep63 ▸ HD.out)
      have n0_ := Aside0.mk (Kd.R_below RD.out HBD.out)
      have n1_ := Aside0.mk (Kd.R_below RB.out HBD.out)
      have n2_ := Aside0.mk (Kd.R_below RP0.out HBD.out)
      have nb_ := Aside0.mk (below_step HB.out HBD.out)
      have nd_ := Aside0.mk (Kd.R_lower HD1.out (below_size HB.out))
      clear HB HD HD1 HBD RD RB RP0
      have RD := n0_
      have RB := n1_
      have RP0 := n2_
      have HB := nb_
      have DEEP := nd_
      clear nb_ nd_ n0_ n1_ n2_
      obtain ⟨Ade, cde, rfl, hcde, hCde⟩ := Kd.R_reads DEEP.out
      clear hcde hCde
      go_wp2_with fail
      refine (term_Un.calls 400 6 (fun _ => True) Ade cde _ _ _ _ (Kd.R_V DEEP.out) kun).mono ?_
      rintro e w45 ⟨v45, rfl, hr, hb⟩
      have n0_ := Aside0.mk (Kd.R_below (by (with_reducible repeat (first | apply Kd.R_alloc | apply Kd.R_drewN | apply Kd.R_drew)); exact RD.out) hb)
      have n1_ := Aside0.mk (Kd.R_below (by (with_reducible repeat (first | apply Kd.R_alloc | apply Kd.R_drewN | apply Kd.R_drew)); exact RB.out) hb)
      have n2_ := Aside0.mk (Kd.R_below (by (with_reducible repeat (first | apply Kd.R_alloc | apply Kd.R_drewN | apply Kd.R_drew)); exact RP0.out) hb)
      have n3_ := Aside0.mk (Kd.R_below (by (with_reducible repeat (first | apply Kd.R_alloc | apply Kd.R_drewN | apply Kd.R_drew)); exact DEEP.out) hb)
      have nb_ := Aside0.mk (below_step (by repeat (first | (with_reducible first | exact HB.out | apply below_alloc | apply pw_below_drewN | apply below_drew1) | exact HB.out)) hb)
      clear HB RD RB RP0 DEEP
      have RD := n0_
      have RB := n1_
      have RP0 := n2_
      have DEEP := n3_
      have HB := nb_
      clear nb_ n0_ n1_ n2_ n3_ 
      clear hr hb
      go_wp2_with fail
      refine (rejoinderlaw03_Op.calls 14 114 _ kop14).mono ?_
      rintro e w46 ⟨rfl, hd⟩
      have n0_ := Aside0.mk (Kd.R_below (by (with_reducible repeat (first | apply Kd.R_alloc | apply Kd.R_drewN | apply Kd.R_drew)); exact RD.out) hd.below)
      have n1_ := Aside0.mk (Kd.R_below (by (with_reducible repeat (first | apply Kd.R_alloc | apply Kd.R_drewN | apply Kd.R_drew)); exact RB.out) hd.below)
      have n2_ := Aside0.mk (Kd.R_below (by (with_reducible repeat (first | apply Kd.R_alloc | apply Kd.R_drewN | apply Kd.R_drew)); exact RP0.out) hd.below)
      have n3_ := Aside0.mk (Kd.R_below (by (with_reducible repeat (first | apply Kd.R_alloc | apply Kd.R_drewN | apply Kd.R_drew)); exact DEEP.out) hd.below)
      have nb_ := Aside0.mk (below_step (by repeat (first | (with_reducible first | exact HB.out | apply below_alloc | apply pw_below_drewN | apply below_drew1) | exact HB.out)) hd.below)
      clear hd
      clear HB RD RB RP0 DEEP
      have RD := n0_
      have RB := n1_
      have RP0 := n2_
      have DEEP := n3_
      have HB := nb_
      clear nb_ n0_ n1_ n2_ n3_ 
      go_wp2_with fail
      have hq := ints_C (k := .i64) (cs := #[.int .i64 0, .int .i64 1, .int .i64 114, .int .i64 106]) (xs := [0, 1, 114, 106]) (n := 4) rfl (blk_new w46 (Obj.cells #[.int .i64 0, .int .i64 1, .int .i64 114, .int .i64 106] 3)) rfl (by decide)
      refine (rejoinderlaw03_T.calls 20 (some ⟨w46.heap.size, 0, none⟩) 4 [0, 1, 114, 106] _ _ hq (by decide) kt12).mono ?_
      rintro e w47 ⟨v47, rfl, hr, hb⟩
      have n0_ := Aside0.mk (Kd.R_below (by (with_reducible repeat (first | apply Kd.R_alloc | apply Kd.R_drewN | apply Kd.R_drew)); exact RD.out) hb)
      have n1_ := Aside0.mk (Kd.R_below (by (with_reducible repeat (first | apply Kd.R_alloc | apply Kd.R_drewN | apply Kd.R_drew)); exact RB.out) hb)
      have n2_ := Aside0.mk (Kd.R_below (by (with_reducible repeat (first | apply Kd.R_alloc | apply Kd.R_drewN | apply Kd.R_drew)); exact RP0.out) hb)
      have n3_ := Aside0.mk (Kd.R_below (by (with_reducible repeat (first | apply Kd.R_alloc | apply Kd.R_drewN | apply Kd.R_drew)); exact DEEP.out) hb)
      have nb_ := Aside0.mk (below_step (by repeat (first | (with_reducible first | exact HB.out | apply below_alloc | apply pw_below_drewN | apply below_drew1) | exact HB.out)) hb)
      have rR19_ := Aside0.mk (Kd.R_lower hr (below_size (by repeat (first | (with_reducible first | exact HB.out | apply below_alloc | apply pw_below_drewN | apply below_drew1) | exact HB.out))))
      clear hr hb hq
      clear HB RD RB RP0 DEEP
      have RD := n0_
      have RB := n1_
      have RP0 := n2_
      have DEEP := n3_
      have HB := nb_
      have R19 := rR19_
      clear nb_ n0_ n1_ n2_ n3_ rR19_
      obtain ⟨Ab0, cb0, rfl, hcb0, hCb0⟩ := Kd.R_reads R19.out
      go_wp2_with fail
      refine (term_Plain.calls 60 Ab0 cb0 _ _ _ _ hCb0 hcb0 kpl0).mono ?_
      rintro e w48 ⟨rfl, hb⟩
      clear R19
      have n0_ := Aside0.mk (Kd.R_below (by (with_reducible repeat (first | apply Kd.R_alloc | apply Kd.R_drewN | apply Kd.R_drew)); exact RD.out) hb)
      have n1_ := Aside0.mk (Kd.R_below (by (with_reducible repeat (first | apply Kd.R_alloc | apply Kd.R_drewN | apply Kd.R_drew)); exact RB.out) hb)
      have n2_ := Aside0.mk (Kd.R_below (by (with_reducible repeat (first | apply Kd.R_alloc | apply Kd.R_drewN | apply Kd.R_drew)); exact RP0.out) hb)
      have n3_ := Aside0.mk (Kd.R_below (by (with_reducible repeat (first | apply Kd.R_alloc | apply Kd.R_drewN | apply Kd.R_drew)); exact DEEP.out) hb)
      have nb_ := Aside0.mk (below_step (by repeat (first | (with_reducible first | exact HB.out | apply below_alloc | apply pw_below_drewN | apply below_drew1) | exact HB.out)) hb)
      clear hb hCb0 hcb0
      clear HB RD RB RP0 DEEP
      have RD := n0_
      have RB := n1_
      have RP0 := n2_
      have DEEP := n3_
      have HB := nb_
      clear nb_ n0_ n1_ n2_ n3_ 
      go_wp2_with fail
      refine (rejoinderlaw03_Op.calls 7 107 _ kop7).mono ?_
      rintro e w49 ⟨rfl, hd⟩
      have n0_ := Aside0.mk (Kd.R_below (by (with_reducible repeat (first | apply Kd.R_alloc | apply Kd.R_drewN | apply Kd.R_drew)); exact RD.out) hd.below)
      have n1_ := Aside0.mk (Kd.R_below (by (with_reducible repeat (first | apply Kd.R_alloc | apply Kd.R_drewN | apply Kd.R_drew)); exact RB.out) hd.below)
      have n2_ := Aside0.mk (Kd.R_below (by (with_reducible repeat (first | apply Kd.R_alloc | apply Kd.R_drewN | apply Kd.R_drew)); exact RP0.out) hd.below)
      have n3_ := Aside0.mk (Kd.R_below (by (with_reducible repeat (first | apply Kd.R_alloc | apply Kd.R_drewN | apply Kd.R_drew)); exact DEEP.out) hd.below)
      have nb_ := Aside0.mk (below_step (by repeat (first | (with_reducible first | exact HB.out | apply below_alloc | apply pw_below_drewN | apply below_drew1) | exact HB.out)) hd.below)
      clear hd
      clear HB RD RB RP0 DEEP
      have RD := n0_
      have RB := n1_
      have RP0 := n2_
      have DEEP := n3_
      have HB := nb_
      clear nb_ n0_ n1_ n2_ n3_ 
      go_wp2_with fail
      have hq := ints_C (k := .i64) (cs := #[.int .i64 0, .int .i64 107]) (xs := [0, 107]) (n := 2) rfl (blk_new w49 (Obj.cells #[.int .i64 0, .int .i64 107] 3)) rfl (by decide)
      refine (rejoinderlaw03_T.calls 20 (some ⟨w49.heap.size, 0, none⟩) 2 [0, 107] _ _ hq (by decide) kt13).mono ?_
      rintro e w50 ⟨v50, rfl, hr, hb⟩
      have n0_ := Aside0.mk (Kd.R_below (by (with_reducible repeat (first | apply Kd.R_alloc | apply Kd.R_drewN | apply Kd.R_drew)); exact RD.out) hb)
      have n1_ := Aside0.mk (Kd.R_below (by (with_reducible repeat (first | apply Kd.R_alloc | apply Kd.R_drewN | apply Kd.R_drew)); exact RB.out) hb)
      have n2_ := Aside0.mk (Kd.R_below (by (with_reducible repeat (first | apply Kd.R_alloc | apply Kd.R_drewN | apply Kd.R_drew)); exact RP0.out) hb)
      have n3_ := Aside0.mk (Kd.R_below (by (with_reducible repeat (first | apply Kd.R_alloc | apply Kd.R_drewN | apply Kd.R_drew)); exact DEEP.out) hb)
      have nb_ := Aside0.mk (below_step (by repeat (first | (with_reducible first | exact HB.out | apply below_alloc | apply pw_below_drewN | apply below_drew1) | exact HB.out)) hb)
      have rR20_ := Aside0.mk (Kd.R_lower hr (below_size (by repeat (first | (with_reducible first | exact HB.out | apply below_alloc | apply pw_below_drewN | apply below_drew1) | exact HB.out))))
      clear hr hb hq
      clear HB RD RB RP0 DEEP
      have RD := n0_
      have RB := n1_
      have RP0 := n2_
      have DEEP := n3_
      have HB := nb_
      have R20 := rR20_
      clear nb_ n0_ n1_ n2_ n3_ rR20_
      obtain ⟨Ab1, cb1, rfl, hcb1, hCb1⟩ := Kd.R_reads R20.out
      go_wp2_with fail
      refine (term_Plain.calls 60 Ab1 cb1 _ _ _ _ hCb1 hcb1 kpl1).mono ?_
      rintro e w51 ⟨rfl, hb⟩
      clear R20
      have n0_ := Aside0.mk (Kd.R_below (by (with_reducible repeat (first | apply Kd.R_alloc | apply Kd.R_drewN | apply Kd.R_drew)); exact RD.out) hb)
      have n1_ := Aside0.mk (Kd.R_below (by (with_reducible repeat (first | apply Kd.R_alloc | apply Kd.R_drewN | apply Kd.R_drew)); exact RB.out) hb)
      have n2_ := Aside0.mk (Kd.R_below (by (with_reducible repeat (first | apply Kd.R_alloc | apply Kd.R_drewN | apply Kd.R_drew)); exact RP0.out) hb)
      have n3_ := Aside0.mk (Kd.R_below (by (with_reducible repeat (first | apply Kd.R_alloc | apply Kd.R_drewN | apply Kd.R_drew)); exact DEEP.out) hb)
      have nb_ := Aside0.mk (below_step (by repeat (first | (with_reducible first | exact HB.out | apply below_alloc | apply pw_below_drewN | apply below_drew1) | exact HB.out)) hb)
      clear hb hCb1 hcb1
      clear HB RD RB RP0 DEEP
      have RD := n0_
      have RB := n1_
      have RP0 := n2_
      have DEEP := n3_
      have HB := nb_
      clear nb_ n0_ n1_ n2_ n3_ 
      go_wp2_with fail
      refine (rejoinderlaw03_awake.calls 40 true _ awake_now).mono ?_
      rintro e w52 ⟨rfl, hb⟩
      have n0_ := Aside0.mk (Kd.R_below (by (with_reducible repeat (first | apply Kd.R_alloc | apply Kd.R_drewN | apply Kd.R_drew)); exact RD.out) hb)
      have n1_ := Aside0.mk (Kd.R_below (by (with_reducible repeat (first | apply Kd.R_alloc | apply Kd.R_drewN | apply Kd.R_drew)); exact RB.out) hb)
      have n2_ := Aside0.mk (Kd.R_below (by (with_reducible repeat (first | apply Kd.R_alloc | apply Kd.R_drewN | apply Kd.R_drew)); exact RP0.out) hb)
      have n3_ := Aside0.mk (Kd.R_below (by (with_reducible repeat (first | apply Kd.R_alloc | apply Kd.R_drewN | apply Kd.R_drew)); exact DEEP.out) hb)
      have nb_ := Aside0.mk (below_step (by repeat (first | (with_reducible first | exact HB.out | apply below_alloc | apply pw_below_drewN | apply below_drew1) | exact HB.out)) hb)
      clear hb
      clear HB RD RB RP0 DEEP
      have RD := n0_
      have RB := n1_
      have RP0 := n2_
      have DEEP := n3_
      have HB := nb_
      clear nb_ n0_ n1_ n2_ n3_ 
      obtain ⟨AQ, cQ, rfl, hcQ, hCQ⟩ := Kd.R_reads RD.out
      go_wp2_with fail
      have hq := ints_C (k := .i64) (cs := #[.int .i64 1, .int .i64 1, .int .i64 2, .int .i64 3]) (xs := [1, 1, 2, 3]) (n := 4) rfl (blk_new w52 (Obj.cells #[.int .i64 1, .int .i64 1, .int .i64 2, .int .i64 3] 3)) rfl (by decide)
      refine (rejoinderkit_SameInts.calls 60 AQ cQ _ (some ⟨w52.heap.size, 0, none⟩) 4 [1, 1, 2, 3] true _ (Kd.C_alloc hCQ _) hcQ hq (by decide) ksi).mono ?_
      rintro e w53 ⟨rfl, hd⟩
      clear RD
      have n0_ := Aside0.mk (Kd.R_below (by (with_reducible repeat (first | apply Kd.R_alloc | apply Kd.R_drewN | apply Kd.R_drew)); exact RB.out) hd.below)
      have n1_ := Aside0.mk (Kd.R_below (by (with_reducible repeat (first | apply Kd.R_alloc | apply Kd.R_drewN | apply Kd.R_drew)); exact RP0.out) hd.below)
      have n2_ := Aside0.mk (Kd.R_below (by (with_reducible repeat (first | apply Kd.R_alloc | apply Kd.R_drewN | apply Kd.R_drew)); exact DEEP.out) hd.below)
      have nb_ := Aside0.mk (below_step (by repeat (first | (with_reducible first | exact HB.out | apply below_alloc | apply pw_below_drewN | apply below_drew1) | exact HB.out)) hd.below)
      clear hd hCQ hcQ hq
      clear HB RB RP0 DEEP
      have RB := n0_
      have RP0 := n1_
      have DEEP := n2_
      have HB := nb_
      clear nb_ n0_ n1_ n2_ 
      go_wp2_with fail
      have hq := ints_C (k := .i64) (cs := #[.int .i64 0, .int .i64 1, .int .i64 115]) (xs := [0, 1, 115]) (n := 3) rfl (blk_new w53 (Obj.cells #[.int .i64 0, .int .i64 1, .int .i64 115] 3)) rfl (by decide)
      refine (rejoinderlaw03_T.calls 20 (some ⟨w53.heap.size, 0, none⟩) 3 [0, 1, 115] _ _ hq (by decide) kt0).mono ?_
      rintro e w54 ⟨v54, rfl, hr, hb⟩
      have n0_ := Aside0.mk (Kd.R_below (by (with_reducible repeat (first | apply Kd.R_alloc | apply Kd.R_drewN | apply Kd.R_drew)); exact RB.out) hb)
      have n1_ := Aside0.mk (Kd.R_below (by (with_reducible repeat (first | apply Kd.R_alloc | apply Kd.R_drewN | apply Kd.R_drew)); exact RP0.out) hb)
      have n2_ := Aside0.mk (Kd.R_below (by (with_reducible repeat (first | apply Kd.R_alloc | apply Kd.R_drewN | apply Kd.R_drew)); exact DEEP.out) hb)
      have nb_ := Aside0.mk (below_step (by repeat (first | (with_reducible first | exact HB.out | apply below_alloc | apply pw_below_drewN | apply below_drew1) | exact HB.out)) hb)
      have rRS_ := Aside0.mk (Kd.R_lower hr (below_size (by repeat (first | (with_reducible first | exact HB.out | apply below_alloc | apply pw_below_drewN | apply below_drew1) | exact HB.out))))
      clear hr hb hq
      clear HB RB RP0 DEEP
      have RB := n0_
      have RP0 := n1_
      have DEEP := n2_
      have HB := nb_
      have RS := rRS_
      clear nb_ n0_ n1_ n2_ rRS_
      obtain ⟨AQ, cQ, rfl, hcQ, hCQ⟩ := Kd.R_reads RB.out
      obtain ⟨AS, cS, rfl, hcS, hCS⟩ := Kd.R_reads RS.out
      go_wp2_with fail
      refine (rejoinderkit_SameToks.calls 60 AQ cQ _ AS cS _ true _ hCQ hcQ hCS hcS kst0).mono ?_
      rintro e w55 ⟨rfl, hd⟩
      clear RB
      clear RS
      have n0_ := Aside0.mk (Kd.R_below (by (with_reducible repeat (first | apply Kd.R_alloc | apply Kd.R_drewN | apply Kd.R_drew)); exact RP0.out) hd.below)
      have n1_ := Aside0.mk (Kd.R_below (by (with_reducible repeat (first | apply Kd.R_alloc | apply Kd.R_drewN | apply Kd.R_drew)); exact DEEP.out) hd.below)
      have nb_ := Aside0.mk (below_step (by repeat (first | (with_reducible first | exact HB.out | apply below_alloc | apply pw_below_drewN | apply below_drew1) | exact HB.out)) hd.below)
      clear hd hCQ hcQ hCS hcS
      clear HB RP0 DEEP
      have RP0 := n0_
      have DEEP := n1_
      have HB := nb_
      clear nb_ n0_ n1_ 
      go_wp2_with fail
      have hq := ints_C (k := .i64) (cs := #[.int .i64 0, .int .i64 0, .int .i64 106, .int .i64 111]) (xs := [0, 0, 106, 111]) (n := 4) rfl (blk_new w55 (Obj.cells #[.int .i64 0, .int .i64 0, .int .i64 106, .int .i64 111] 3)) rfl (by decide)
      refine (rejoinderlaw03_T.calls 20 (some ⟨w55.heap.size, 0, none⟩) 4 [0, 0, 106, 111] _ _ hq (by decide) kt14).mono ?_
      rintro e w56 ⟨v56, rfl, hr, hb⟩
      have n0_ := Aside0.mk (Kd.R_below (by (with_reducible repeat (first | apply Kd.R_alloc | apply Kd.R_drewN | apply Kd.R_drew)); exact RP0.out) hb)
      have n1_ := Aside0.mk (Kd.R_below (by (with_reducible repeat (first | apply Kd.R_alloc | apply Kd.R_drewN | apply Kd.R_drew)); exact DEEP.out) hb)
      have nb_ := Aside0.mk (below_step (by repeat (first | (with_reducible first | exact HB.out | apply below_alloc | apply pw_below_drewN | apply below_drew1) | exact HB.out)) hb)
      have rRS_ := Aside0.mk (Kd.R_lower hr (below_size (by repeat (first | (with_reducible first | exact HB.out | apply below_alloc | apply pw_below_drewN | apply below_drew1) | exact HB.out))))
      clear hr hb hq
      clear HB RP0 DEEP
      have RP0 := n0_
      have DEEP := n1_
      have HB := nb_
      have RS := rRS_
      clear nb_ n0_ n1_ rRS_
      obtain ⟨AQ, cQ, rfl, hcQ, hCQ⟩ := Kd.R_reads RP0.out
      obtain ⟨AS, cS, rfl, hcS, hCS⟩ := Kd.R_reads RS.out
      go_wp2_with fail
      refine (rejoinderkit_SameToks.calls 60 AQ cQ _ AS cS _ true _ hCQ hcQ hCS hcS kst1).mono ?_
      rintro e w57 ⟨rfl, hd⟩
      clear RP0
      clear RS
      have n0_ := Aside0.mk (Kd.R_below (by (with_reducible repeat (first | apply Kd.R_alloc | apply Kd.R_drewN | apply Kd.R_drew)); exact DEEP.out) hd.below)
      have nb_ := Aside0.mk (below_step (by repeat (first | (with_reducible first | exact HB.out | apply below_alloc | apply pw_below_drewN | apply below_drew1) | exact HB.out)) hd.below)
      clear hd hCQ hcQ hCS hcS
      clear HB DEEP
      have DEEP := n0_
      have HB := nb_
      clear nb_ n0_ 
      obtain ⟨Ae, ce, he_, hce, hCe⟩ := Kd.R_reads DEEP.out
      cases he_
      go_wp2_with fail
      refine (term_Check.calls 400 Ade cde _ _ _ hCe hce kdeep).mono ?_
      rintro e w58 ⟨rfl, hb⟩
      clear DEEP
      have nb_ := Aside0.mk (below_step (by repeat (first | (with_reducible first | exact HB.out | apply below_alloc | apply pw_below_drewN | apply below_drew1) | exact HB.out)) hb)
      clear hb hCe hce
      clear HB 
      have HB := nb_
      clear nb_  
      go_wp2_with fail
      refine (term_Check.calls 60 (some ⟨w58.heap.size, 0, none⟩) 513 _ _ _ (mk_C w58) (Nat.le_refl _) kmk).mono ?_
      rintro e wZ ⟨rfl, hb⟩
      have HZ := Aside0.mk (below_step (below_alloc HB.out _) hb)
      clear hb
      go_wp2
      go_ret
      exact ⟨rfl, HZ.out⟩
end Go.Proofs.Ytgemencaeocmmaa.PTerm
