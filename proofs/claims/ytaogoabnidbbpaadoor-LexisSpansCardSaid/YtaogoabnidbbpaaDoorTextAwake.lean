/- The layer's own examples hold: the closed call tells true. -/
import Derived.Test.YtaogoabnidbbpaaDoorTextKnownVals
import Derived.Test.YtaogoabnidbbpaaDoorAid
namespace Go.Proofs.YtaogoabnidbbpaaDoor.PText
open Go.RowKit Go.Proofs.YtaogoabnidbbpaaDoorW.PrintWords Go.Proofs.YtaogoabnidbbpaaDoorW.PrintLast Go.Proofs.YtaogoabnidbbpaaDoorW.PrintMore Go.Proofs.YtaogoabnidbbpaaDoorW.Aid
set_option linter.unusedVariables false
set_option maxHeartbeats 4000000 in
set_option maxRecDepth 100000 in
theorem law04_awake (w : World) (HT : Aside0 (Laid w)) : Calls Tryd.prog 13 #[] w fun e w' => e = .returned (.bool true) ∧ Below w.heap.size w w' := by
  have HB := Aside0.mk (Below.refl w.heap.size w)
  have hu31 := Tryd.underlying31
  go_enter Tryd.func13, Tryd.ntmps13
  go_wp2_with fail
  refine (lexis_Words.calls 40 (⟨#[88, 40, 112, 49, 38, 33, 113, 41]⟩ : ByteArray) _ _ _ _ kw0).mono ?_
  rintro e w1 ⟨vL, rfl, hr, hb⟩
  have nb_ := Aside0.mk (below_step (by repeat (first | (with_reducible first | exact HB.out | apply below_alloc | apply pw_below_drewN | apply below_drew1) | exact HB.out)) hb)
  have rRL_ := Aside0.mk (Kd.R_lower hr (below_size (by repeat (first | (with_reducible first | exact HB.out | apply below_alloc | apply pw_below_drewN | apply below_drew1) | exact HB.out))))
  clear hr hb
  clear HB 
  have HB := nb_
  have RL := rRL_
  clear nb_  rRL_
  go_wp2_with fail
  refine (lexis_Words.calls 40 (⟨#[112, 60, 45, 113]⟩ : ByteArray) _ _ _ _ kb0).mono ?_
  rintro e w2 ⟨vM, rfl, hr, hb⟩
  have n0_ := Aside0.mk (Kd.R_below (by (with_reducible repeat (first | apply Kd.R_alloc | apply Kd.R_drewN | apply Kd.R_drew)); exact RL.out) hb)
  have n1_ := Aside0.mk (blk_below (g := w1.heap.size) (o := (.cells #[.int .i64 0, .int .i64 0] 26 (0, 0))) (by first | exact blk_new _ _ | exact blk_alloc (blk_new _ _) _ | exact blk_new1 _ _ _ | exact blk_alloc (blk_alloc (blk_new _ _) _) _ | exact blk_alloc (blk_new1 _ _ _) _) hb)
  have nb_ := Aside0.mk (below_step (by repeat (first | (with_reducible first | exact HB.out | apply below_alloc | apply pw_below_drewN | apply below_drew1) | exact HB.out)) hb)
  clear hr hb
  clear HB RL
  have RL := n0_
  have BL := n1_
  have HB := nb_
  clear nb_ n0_ n1_ 
  obtain ⟨AL, cL, eL, hcL, hCL⟩ := Kd.R_reads RL.out
  cases eL
  obtain ⟨ad0, eq0, hz00, hz01, hz02⟩ := at_T31 hCL 0 (by decide) (by decide)
  obtain ⟨ad2, eq2, hz20, hz21, hz22⟩ := at_T31 hCL 2 (by decide) (by decide)
  cases eq0
  cases eq2
  have y00 : w2.cell? ad0 = some (.int .u8 1) := hz00
  have y01 : w2.cell? ⟨ad0.block, ad0.off + 1, none⟩ = some (.string (⟨#[88]⟩ : ByteArray)) := hz01
  have y02 : w2.cell? ⟨ad0.block, ad0.off + 2, none⟩ = some (.int .i64 0) := hz02
  have y20 : w2.cell? ⟨ad0.block, ad0.off + 6, none⟩ = some (.int .u8 2) := hz20
  have y21 : w2.cell? ⟨ad0.block, ad0.off + 6 + 1, none⟩ = some (.string (⟨#[112, 49]⟩ : ByteArray)) := hz21
  have y22 : w2.cell? ⟨ad0.block, ad0.off + 6 + 2, none⟩ = some (.int .i64 2) := hz22
  have hs0 := World.block_lt_of_cell? w2 _ y00
  have hn0 := Nat.ne_of_lt hs0
  have hs2 : (ad0.add 6).block < w2.heap.size := hs0
  have hn2 := Nat.ne_of_lt hs2
  have hzBL_0 : w2.cell? ⟨w1.heap.size, 0, none⟩ = some (.int .i64 0) := (blk_cell BL.out 0).trans rfl
  have hzBL_1 : w2.cell? ⟨w1.heap.size, 1, none⟩ = some (.int .i64 0) := (blk_cell BL.out 1).trans rfl
  have hsBL := blk_lt BL.out
  have hnBL := Nat.ne_of_lt (blk_lt BL.out)
  clear hz00 hz01 hz02 hz20 hz21 hz22 hCL hcL RL
  go_wp2_with fail
  go_ret
  exact ⟨rfl, (by repeat (first | (with_reducible first | exact HB.out | apply below_alloc | apply pw_below_drewN | apply below_drew1) | exact HB.out))⟩
end Go.Proofs.YtaogoabnidbbpaaDoor.PText
