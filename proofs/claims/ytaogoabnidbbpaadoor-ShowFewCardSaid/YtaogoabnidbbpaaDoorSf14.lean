/- Texts of this work merged into one file, what the law does not need left out: PTextx6; TermFits; TextTrmPure; TextTrmBlocks; PTextx7; TextTrmRead; PTextx3. Conditions stand in each law. -/
import Derived.Below
import Derived.Deep.Draws
import Derived.Deep.AppendLies
import Derived.Maps.AppendAt
import Derived.OwnWalk
import Derived.Laws.BytesArg
import Derived.Laws.MakeOwn
import Derived.Laws.OwnMore
import Derived.Deep.OwnRows
import Derived.Tactics
import Derived.Lib.ConvBytes
import Derived.Laws.Slices
import Derived.WalkKit
import Derived.KernelRfl
import Derived.RowKit3
import Derived.Deep.LoopGhost
import Derived.Deep.QuietTactic
import Derived.BigQuiet
import Derived.WideLaws
import Derived.Deep.DeepCutAuto
import Derived.Deep.CutBlock
import Derived.Deep.RegionHeld3
import Derived.Laws.Rows
import Derived.Lib.AppendStr
import Derived.ArgAppend
import Derived.Laws.IdiomCopy
import Derived.RowKit
import Derived.OrdersHeld
import Derived.Laws.BitsLemmas
import Derived.Laws.StructEq
import Derived.Test.YtaogoabnidbbpaaDoorProg
import Derived.Test.YtaogoabnidbbpaaDoorSf1
import Derived.Test.YtaogoabnidbbpaaDoorSf2
import Derived.Test.YtaogoabnidbbpaaDoorSf3
import Derived.Test.YtaogoabnidbbpaaDoorSf4
import Derived.Test.YtaogoabnidbbpaaDoorSf5
import Derived.Test.YtaogoabnidbbpaaDoorSf6
import Derived.Test.YtaogoabnidbbpaaDoorSf7
/-! PTextx6 -/
namespace Go.Proofs.YtaogoabnidbbpaaDoor.PText
open Go.RowKit Go.Proofs.YtaogoabnidbbpaaDoorW.PrintWords Go.Proofs.YtaogoabnidbbpaaDoorW.PrintLast Go.Proofs.YtaogoabnidbbpaaDoorW.PrintMore
attribute [local go_sem] max2_int min2_int max_two min_two max_three min_three max_four min_four   -- for this text's walks alone
set_option linter.unusedVariables false
set_option linter.unusedSimpArgs false
mutual
def term_takes.j0 : Nat → Bool → Int → Int → Option (Int)
  | 0, _, _, _ => none
  | k + 1, x15, x223000, x223001 => if x15 = true then (some (-1)) else (if x223000 = 0 then (term_takes.j1 k x223000 (x223000 == 0)) else (if x223000 = 1 then (term_takes.j1 k x223000 (x223000 == 1)) else (if x223000 = 2 then (term_takes.j1 k x223000 (x223000 == 2)) else (if x223000 = 3 then (term_takes.j1 k x223000 (x223000 == 3)) else (if x223000 = 4 then (term_takes.j1 k x223000 (x223000 == 4)) else (term_takes.j1 k x223000 (x223000 == 5)))))))
def term_takes.j1 : Nat → Int → Bool → Option (Int)
  | 0, _, _ => none
  | k + 1, x17, x18 => if x18 = true then (some 0) else (if x17 = 6 then (term_takes.j2 k x17 (x17 == 6)) else (if x17 = 7 then (term_takes.j2 k x17 (x17 == 7)) else (if x17 = 8 then (term_takes.j2 k x17 (x17 == 8)) else (if x17 = 9 then (term_takes.j2 k x17 (x17 == 9)) else (if x17 = 10 then (term_takes.j2 k x17 (x17 == 10)) else (if x17 = 19 then (term_takes.j2 k x17 (x17 == 19)) else (if x17 = 20 then (term_takes.j2 k x17 (x17 == 20)) else (term_takes.j2 k x17 (x17 == 23)))))))))
def term_takes.j2 : Nat → Int → Bool → Option (Int)
  | 0, _, _ => none
  | k + 1, x17, x25 => if x25 = true then (some 1) else (if x17 = 11 then (some 2) else (if x17 = 12 then (some 2) else (if x17 = 13 then (some 2) else (if x17 = 14 then (some 2) else (if x17 = 15 then (some 2) else (if x17 = 16 then (some 2) else (if x17 = 17 then (some 2) else (if x17 = 18 then (some 2) else (if x17 = 21 then (some 2) else (if x17 = 22 then (some 2) else (some (-1))))))))))))
end
def term_takes.f (k : Nat) (a0_0 : Int) (a0_1 : Int) : Option (Int) := if a0_0 = 2 then (term_takes.j0 k (decide (a0_1 ≥ 8)) a0_0 a0_1) else (if a0_1 = 0 then (term_takes.j0 k (decide (a0_1 ≥ 8)) a0_0 a0_1) else (term_takes.j0 k true a0_0 a0_1))
theorem term_takes.mono_l : ∀ k, (∀ y0 y1 y2, LeO (term_takes.j0 k y0 y1 y2) (term_takes.j0 (k + 1) y0 y1 y2)) ∧ (∀ y0 y1, LeO (term_takes.j1 k y0 y1) (term_takes.j1 (k + 1) y0 y1)) ∧ (∀ y0 y1, LeO (term_takes.j2 k y0 y1) (term_takes.j2 (k + 1) y0 y1))
  | 0 => ⟨fun _ _ _ r h => by simp [term_takes.j0] at h, fun _ _ r h => by simp [term_takes.j1] at h, fun _ _ r h => by simp [term_takes.j2] at h⟩
  | k + 1 => by
    obtain ⟨ih0, ih1, ih2⟩ := term_takes.mono_l k
    refine ⟨?_, ?_, ?_⟩
    · intro y0 y1 y2
      unfold term_takes.j0
      repeat' first
      | (with_reducible exact ih0 _ _ _)
      | (with_reducible exact ih1 _ _)
      | (with_reducible exact ih2 _ _)
      | (with_reducible exact LeO.refl _)
      | (with_reducible exact LeO.none _)
      | (with_reducible refine LeO.ite ?_ ?_)
      | (with_reducible refine LeO.bind ?_ (fun _ => ?_))
      | exact ih0 _ _ _
      | exact ih1 _ _
      | exact ih2 _ _
      | exact LeO.none _
      | refine LeO.ite ?_ ?_
      | refine LeO.bind ?_ (fun _ => ?_)
    · intro y0 y1
      unfold term_takes.j1
      repeat' first
      | (with_reducible exact ih0 _ _ _)
      | (with_reducible exact ih1 _ _)
      | (with_reducible exact ih2 _ _)
      | (with_reducible exact LeO.refl _)
      | (with_reducible exact LeO.none _)
      | (with_reducible refine LeO.ite ?_ ?_)
      | (with_reducible refine LeO.bind ?_ (fun _ => ?_))
      | exact ih0 _ _ _
      | exact ih1 _ _
      | exact ih2 _ _
      | exact LeO.none _
      | refine LeO.ite ?_ ?_
      | refine LeO.bind ?_ (fun _ => ?_)
    · intro y0 y1
      unfold term_takes.j2
      repeat' first
      | (with_reducible exact ih0 _ _ _)
      | (with_reducible exact ih1 _ _)
      | (with_reducible exact ih2 _ _)
      | (with_reducible exact LeO.refl _)
      | (with_reducible exact LeO.none _)
      | (with_reducible refine LeO.ite ?_ ?_)
      | (with_reducible refine LeO.bind ?_ (fun _ => ?_))
      | exact ih0 _ _ _
      | exact ih1 _ _
      | exact ih2 _ _
      | exact LeO.none _
      | refine LeO.ite ?_ ?_
      | refine LeO.bind ?_ (fun _ => ?_)
theorem term_takes.mono : ∀ a0 a1 k, LeO (term_takes.f k a0 a1) (term_takes.f (k + 1) a0 a1) := by
  intro a0 a1 k
  obtain ⟨ih0, ih1, ih2⟩ := term_takes.mono_l k
  unfold term_takes.f
  repeat' first
      | (with_reducible exact ih0 _ _ _)
      | (with_reducible exact ih1 _ _)
      | (with_reducible exact ih2 _ _)
      | (with_reducible exact LeO.refl _)
      | (with_reducible exact LeO.none _)
      | (with_reducible refine LeO.ite ?_ ?_)
      | (with_reducible refine LeO.bind ?_ (fun _ => ?_))
      | exact ih0 _ _ _
      | exact ih1 _ _
      | exact ih2 _ _
      | exact LeO.none _
      | refine LeO.ite ?_ ?_
      | refine LeO.bind ?_ (fun _ => ?_)
set_option maxHeartbeats 8000000 in
set_option maxRecDepth 100000 in
theorem term_takes.calls (k : Nat) (a0_0 : Int) (a0_1 : Int) (r : Int) (w : World) (h : term_takes.f k a0_0 a0_1 = some r) :
    Calls Tryd.prog 105 #[.agg #[.int .u8 a0_0, .int .u8 a0_1]] w fun e w' => e = .returned (.int .i64 r) ∧ Below w.heap.size w w' := by
  have hu55 := Tryd.underlying55
  have HB := Aside0.mk (Below.refl w.heap.size w)
  have H : (if a0_0 = 2 then (term_takes.j0 k (decide (a0_1 ≥ 8)) a0_0 a0_1) else (if a0_1 = 0 then (term_takes.j0 k (decide (a0_1 ≥ 8)) a0_0 a0_1) else (term_takes.j0 k true a0_0 a0_1))) = some r := h
  clear h
  have HC2 := Aside0.mk H
  clear H
  go_enter Tryd.func105, Tryd.ntmps105
  go_upto_region 1 with (first | ((with_reducible refine gate_dst (N := 1) rfl ?_); refine box_event ?hg (N := 1) ?hd (cs := #[.int .u8 a0_0, .int .u8 a0_1]) (t := 55) ?hr ?_; (case hd => rfl); (case hg => rfl); (case hr => first | (go_simp; done) | (go_simp; rfl)); intro gb222 hg w3 hbox hb; have n0_ := Aside0.mk (below_step (by repeat (first | (with_reducible first | exact HB.out | apply below_alloc | apply pw_below_drewN | apply below_drew1) | exact HB.out)) hb); have n1_ := Aside0.mk (hbox); have n2_ := Aside0.mk ((by rw [hg]; exact (below_size (by repeat (first | (with_reducible first | exact HB.out | apply below_alloc | apply pw_below_drewN | apply below_drew1) | exact HB.out))) : w.heap.size ≤ gb222)); have n3_ := Aside0.mk ((by rw [hg]; exact (below_size (by repeat (first | (with_reducible first | exact HB.out | apply below_alloc | apply pw_below_drewN | apply below_drew1) | exact HB.out))) : w.heap.size ≤ gb222)); clear HB; have HB := n0_; have BK222 := n1_; have GW222 := n2_; have GE222 := n3_; clear n0_ n1_ n2_ n3_; clear hb hbox hg))
  (try simp only [Act.put, List.setIfInBounds_toArray, List.set_cons_zero, List.set_cons_succ])
  go_cut [15] (fun v15 wc => ∃ (kq : Nat) (x15_1 : Bool), v15 = .bool x15_1 ∧ Aside0 (term_takes.j0 kq x15_1 a0_0 a0_1 = some r) ∧ Aside0 (kq ≤ k) ∧ Aside0 (wc.heap[gb222]? = some (.cells #[.int .u8 a0_0, .int .u8 a0_1] 55 (0, 0))) ∧ Aside0 (Below w.heap.size w wc))
  case first =>
    have H := HC2.out
    clear HC2
    by_cases c4 : a0_0 = 2
    · rw [if_pos c4] at H
      have c4b0 : (a0_0 == 2) = true := beq_iff_eq.mpr c4
      have c4b1 : (a0_0 != 2) = false := bne_eq_false_iff_eq.mpr c4
      clear c4
      (first | rw [c4b0] | (simp only [i64_w, i32_w]; rw [c4b0]) | skip)
      have H' := Aside0.mk H
      clear H
      have hcz5_0 : w3.cell? ⟨gb222, 0, none⟩ = some (.int .u8 a0_0) := (blk_cell BK222.out 0).trans rfl
      have hcz5_1 : w3.cell? ⟨gb222, 1, none⟩ = some (.int .u8 a0_1) := (blk_cell BK222.out 1).trans rfl
      have hfz5_0 := blk_frozen BK222.out 0
      have hfz5_1 := blk_frozen BK222.out 1
      go_wp2
      go_meet
      case rel => exact ⟨_, (decide (a0_1 ≥ 8)), (by first | rfl | (simp; done) | (simp [*]; done)), H', ⟨by first | omega | exact Nat.le_refl _⟩, ⟨by (with_reducible repeat (first | refine blk_drewN ?_ _ | refine blk_drew ?_ | refine blk_alloc ?_ _)); exact BK222.out⟩, ⟨by repeat (first | (with_reducible first | exact HB.out | apply below_alloc | apply pw_below_drewN | apply below_drew1 | refine below_set ?_ GE222.out) | exact HB.out)⟩⟩
    · rw [if_neg c4] at H
      have c4b0 : (a0_0 == 2) = false := beq_eq_false_iff_ne.mpr c4
      have c4b1 : (a0_0 != 2) = true := bne_iff_ne.mpr c4
      (first | rw [c4b0] | (simp only [i64_w, i32_w]; rw [c4b0]) | skip)
      by_cases c6 : a0_1 = 0
      · rw [if_pos c6] at H
        have c6b0 : (a0_1 == 0) = true := beq_iff_eq.mpr c6
        have c6b1 : (a0_1 != 0) = false := bne_eq_false_iff_eq.mpr c6
        clear c6
        have H' := Aside0.mk H
        clear H
        have hcz7_0 : w3.cell? ⟨gb222, 0, none⟩ = some (.int .u8 a0_0) := (blk_cell BK222.out 0).trans rfl
        have hcz7_1 : w3.cell? ⟨gb222, 1, none⟩ = some (.int .u8 a0_1) := (blk_cell BK222.out 1).trans rfl
        have hfz7_0 := blk_frozen BK222.out 0
        have hfz7_1 := blk_frozen BK222.out 1
        go_wp2
        go_meet
        case rel => exact ⟨_, (decide (a0_1 ≥ 8)), (by first | rfl | (simp; done) | (simp [*]; done)), H', ⟨by first | omega | exact Nat.le_refl _⟩, ⟨by (with_reducible repeat (first | refine blk_drewN ?_ _ | refine blk_drew ?_ | refine blk_alloc ?_ _)); exact BK222.out⟩, ⟨by repeat (first | (with_reducible first | exact HB.out | apply below_alloc | apply pw_below_drewN | apply below_drew1 | refine below_set ?_ GE222.out) | exact HB.out)⟩⟩
      · rw [if_neg c6] at H
        have c6b0 : (a0_1 == 0) = false := beq_eq_false_iff_ne.mpr c6
        have c6b1 : (a0_1 != 0) = true := bne_iff_ne.mpr c6
        have H' := Aside0.mk H
        clear H
        have hcz8_0 : w3.cell? ⟨gb222, 0, none⟩ = some (.int .u8 a0_0) := (blk_cell BK222.out 0).trans rfl
        have hcz8_1 : w3.cell? ⟨gb222, 1, none⟩ = some (.int .u8 a0_1) := (blk_cell BK222.out 1).trans rfl
        have hfz8_0 := blk_frozen BK222.out 0
        have hfz8_1 := blk_frozen BK222.out 1
        go_wp2
        go_meet
        case rel => exact ⟨_, (true), (by first | rfl | (simp; done) | (simp [*]; done)), H', ⟨by first | omega | exact Nat.le_refl _⟩, ⟨by (with_reducible repeat (first | refine blk_drewN ?_ _ | refine blk_drew ?_ | refine blk_alloc ?_ _)); exact BK222.out⟩, ⟨by repeat (first | (with_reducible first | exact HB.out | apply below_alloc | apply pw_below_drewN | apply below_drew1 | refine below_set ?_ GE222.out) | exact HB.out)⟩⟩
  case rest =>
    clear HC2
    try clear c1
    try clear p2
    try clear c4
    try clear c4b0
    try clear c4b1
    try clear c6
    try clear c6b0
    try clear c6b1
    try clear hcz5_0
    try clear hcz5_1
    try clear hcz7_0
    try clear hcz7_1
    try clear hcz8_0
    try clear hcz8_1
    try clear hfz5_0
    try clear hfz5_1
    try clear hfz7_0
    try clear hfz7_1
    try clear hfz8_0
    try clear hfz8_1
    obtain ⟨kq, x15_1, rfl, HA, HJ1, BK222, HB⟩ := hcut
    cases kq with
    | zero => exact absurd HA.out (by simp [term_takes.j0])
    | succ kj1 =>
      have H := HA.out
      clear HA
      simp only [term_takes.j0] at H
      by_cases c9 : x15_1 = true
      · subst c9
        have H1 : (some (-1)) = some r := by rw [if_pos rfl] at H; exact H
        clear H
        have H := H1
        clear H1
        obtain rfl := Option.some.inj H
        go_wp2
        go_ret
        exact ⟨by first | rfl | (simp [errW_none, errW_some] <;> rfl) | (simp [*, errW_none, errW_some] <;> rfl), by repeat (first | (with_reducible first | exact HB.out | apply below_alloc | apply pw_below_drewN | apply below_drew1 | refine below_set ?_ GE222.out) | exact HB.out)⟩
      · replace c9 := Bool.eq_false_iff.mpr c9
        subst c9
        have H1 : (if a0_0 = 0 then (term_takes.j1 kj1 a0_0 (a0_0 == 0)) else (if a0_0 = 1 then (term_takes.j1 kj1 a0_0 (a0_0 == 1)) else (if a0_0 = 2 then (term_takes.j1 kj1 a0_0 (a0_0 == 2)) else (if a0_0 = 3 then (term_takes.j1 kj1 a0_0 (a0_0 == 3)) else (if a0_0 = 4 then (term_takes.j1 kj1 a0_0 (a0_0 == 4)) else (term_takes.j1 kj1 a0_0 (a0_0 == 5))))))) = some r := by rw [if_neg (show ¬ (false = true) by decide)] at H; exact H
        clear H
        have H := H1
        clear H1
        have HC10 := Aside0.mk H
        clear H
        have hcz11_0 : wc.cell? ⟨gb222, 0, none⟩ = some (.int .u8 a0_0) := (blk_cell BK222.out 0).trans rfl
        have hcz11_1 : wc.cell? ⟨gb222, 1, none⟩ = some (.int .u8 a0_1) := (blk_cell BK222.out 1).trans rfl
        have hfz11_0 := blk_frozen BK222.out 0
        have hfz11_1 := blk_frozen BK222.out 1
        go_upto_if 18 with (fail)
        go_cut [18] (fun v18 wc => ∃ (kq : Nat) (x18_9 : Bool), v18 = .bool x18_9 ∧ Aside0 (term_takes.j1 kq a0_0 x18_9 = some r) ∧ Aside0 (kq ≤ kj1) ∧ Aside0 (wc.heap[gb222]? = some (.cells #[.int .u8 a0_0, .int .u8 a0_1] 55 (0, 0))) ∧ Aside0 (Below w.heap.size w wc))
        case first =>
          have H := HC10.out
          clear HC10
          by_cases c12 : a0_0 = 0
          · rw [if_pos c12] at H
            have c12b0 : (a0_0 == 0) = true := beq_iff_eq.mpr c12
            have c12b1 : (a0_0 != 0) = false := bne_eq_false_iff_eq.mpr c12
            clear c12
            (first | rw [c12b0] | (simp only [i64_w, i32_w]; rw [c12b0]) | skip)
            have H' := Aside0.mk H
            clear H
            go_wp2
            go_meet
            case rel => exact ⟨_, ((a0_0 == 0)), (by first | rfl | (simp; done) | (simp [*]; done)), H', ⟨by have := HJ1.out; first | omega | exact Nat.le_refl _⟩, ⟨by (with_reducible repeat (first | refine blk_drewN ?_ _ | refine blk_drew ?_ | refine blk_alloc ?_ _)); exact BK222.out⟩, ⟨by repeat (first | (with_reducible first | exact HB.out | apply below_alloc | apply pw_below_drewN | apply below_drew1 | refine below_set ?_ GE222.out) | exact HB.out)⟩⟩
          · rw [if_neg c12] at H
            have c12b0 : (a0_0 == 0) = false := beq_eq_false_iff_ne.mpr c12
            have c12b1 : (a0_0 != 0) = true := bne_iff_ne.mpr c12
            (first | rw [c12b0] | (simp only [i64_w, i32_w]; rw [c12b0]) | skip)
            by_cases c13 : a0_0 = 1
            · rw [if_pos c13] at H
              have c13b0 : (a0_0 == 1) = true := beq_iff_eq.mpr c13
              have c13b1 : (a0_0 != 1) = false := bne_eq_false_iff_eq.mpr c13
              clear c13
              have H' := Aside0.mk H
              clear H
              go_wp2
              go_meet
              case rel => exact ⟨_, ((a0_0 == 1)), (by first | rfl | (simp; done) | (simp [*]; done)), H', ⟨by have := HJ1.out; first | omega | exact Nat.le_refl _⟩, ⟨by (with_reducible repeat (first | refine blk_drewN ?_ _ | refine blk_drew ?_ | refine blk_alloc ?_ _)); exact BK222.out⟩, ⟨by repeat (first | (with_reducible first | exact HB.out | apply below_alloc | apply pw_below_drewN | apply below_drew1 | refine below_set ?_ GE222.out) | exact HB.out)⟩⟩
            · rw [if_neg c13] at H
              have c13b0 : (a0_0 == 1) = false := beq_eq_false_iff_ne.mpr c13
              have c13b1 : (a0_0 != 1) = true := bne_iff_ne.mpr c13
              by_cases c14 : a0_0 = 2
              · rw [if_pos c14] at H
                have c14b0 : (a0_0 == 2) = true := beq_iff_eq.mpr c14
                have c14b1 : (a0_0 != 2) = false := bne_eq_false_iff_eq.mpr c14
                clear c14
                have H' := Aside0.mk H
                clear H
                go_wp2
                go_meet
                case rel => exact ⟨_, ((a0_0 == 2)), (by first | rfl | (simp; done) | (simp [*]; done)), H', ⟨by have := HJ1.out; first | omega | exact Nat.le_refl _⟩, ⟨by (with_reducible repeat (first | refine blk_drewN ?_ _ | refine blk_drew ?_ | refine blk_alloc ?_ _)); exact BK222.out⟩, ⟨by repeat (first | (with_reducible first | exact HB.out | apply below_alloc | apply pw_below_drewN | apply below_drew1 | refine below_set ?_ GE222.out) | exact HB.out)⟩⟩
              · rw [if_neg c14] at H
                have c14b0 : (a0_0 == 2) = false := beq_eq_false_iff_ne.mpr c14
                have c14b1 : (a0_0 != 2) = true := bne_iff_ne.mpr c14
                by_cases c15 : a0_0 = 3
                · rw [if_pos c15] at H
                  have c15b0 : (a0_0 == 3) = true := beq_iff_eq.mpr c15
                  have c15b1 : (a0_0 != 3) = false := bne_eq_false_iff_eq.mpr c15
                  clear c15
                  have H' := Aside0.mk H
                  clear H
                  go_wp2
                  go_meet
                  case rel => exact ⟨_, ((a0_0 == 3)), (by first | rfl | (simp; done) | (simp [*]; done)), H', ⟨by have := HJ1.out; first | omega | exact Nat.le_refl _⟩, ⟨by (with_reducible repeat (first | refine blk_drewN ?_ _ | refine blk_drew ?_ | refine blk_alloc ?_ _)); exact BK222.out⟩, ⟨by repeat (first | (with_reducible first | exact HB.out | apply below_alloc | apply pw_below_drewN | apply below_drew1 | refine below_set ?_ GE222.out) | exact HB.out)⟩⟩
                · rw [if_neg c15] at H
                  have c15b0 : (a0_0 == 3) = false := beq_eq_false_iff_ne.mpr c15
                  have c15b1 : (a0_0 != 3) = true := bne_iff_ne.mpr c15
                  by_cases c16 : a0_0 = 4
                  · rw [if_pos c16] at H
                    have c16b0 : (a0_0 == 4) = true := beq_iff_eq.mpr c16
                    have c16b1 : (a0_0 != 4) = false := bne_eq_false_iff_eq.mpr c16
                    clear c16
                    have H' := Aside0.mk H
                    clear H
                    go_wp2
                    go_meet
                    case rel => exact ⟨_, ((a0_0 == 4)), (by first | rfl | (simp; done) | (simp [*]; done)), H', ⟨by have := HJ1.out; first | omega | exact Nat.le_refl _⟩, ⟨by (with_reducible repeat (first | refine blk_drewN ?_ _ | refine blk_drew ?_ | refine blk_alloc ?_ _)); exact BK222.out⟩, ⟨by repeat (first | (with_reducible first | exact HB.out | apply below_alloc | apply pw_below_drewN | apply below_drew1 | refine below_set ?_ GE222.out) | exact HB.out)⟩⟩
                  · rw [if_neg c16] at H
                    have c16b0 : (a0_0 == 4) = false := beq_eq_false_iff_ne.mpr c16
                    have c16b1 : (a0_0 != 4) = true := bne_iff_ne.mpr c16
                    have H' := Aside0.mk H
                    clear H
                    go_wp2
                    go_meet
                    case rel => exact ⟨_, ((a0_0 == 5)), (by first | rfl | (simp; done) | (simp [*]; done)), H', ⟨by have := HJ1.out; first | omega | exact Nat.le_refl _⟩, ⟨by (with_reducible repeat (first | refine blk_drewN ?_ _ | refine blk_drew ?_ | refine blk_alloc ?_ _)); exact BK222.out⟩, ⟨by repeat (first | (with_reducible first | exact HB.out | apply below_alloc | apply pw_below_drewN | apply below_drew1 | refine below_set ?_ GE222.out) | exact HB.out)⟩⟩
        case rest =>
          clear HC10
          try clear c1
          try clear p2
          try clear c4
          try clear c4b0
          try clear c4b1
          try clear c6
          try clear c6b0
          try clear c6b1
          try clear c9
          try clear c10
          try clear c12
          try clear c12b0
          try clear c12b1
          try clear c13
          try clear c13b0
          try clear c13b1
          try clear c14
          try clear c14b0
          try clear c14b1
          try clear c15
          try clear c15b0
          try clear c15b1
          try clear c16
          try clear c16b0
          try clear c16b1
          try clear hcz11_0
          try clear hcz11_1
          try clear hcz5_0
          try clear hcz5_1
          try clear hcz7_0
          try clear hcz7_1
          try clear hcz8_0
          try clear hcz8_1
          try clear hfz11_0
          try clear hfz11_1
          try clear hfz5_0
          try clear hfz5_1
          try clear hfz7_0
          try clear hfz7_1
          try clear hfz8_0
          try clear hfz8_1
          try clear p2
          obtain ⟨kq, x18_9, rfl, HA, HJ9, BK222, HB⟩ := hcut
          cases kq with
          | zero => exact absurd HA.out (by simp [term_takes.j1])
          | succ kj9 =>
            have H := HA.out
            clear HA
            simp only [term_takes.j1] at H
            by_cases c17 : x18_9 = true
            · subst c17
              have H1 : (some 0) = some r := by rw [if_pos rfl] at H; exact H
              clear H
              have H := H1
              clear H1
              obtain rfl := Option.some.inj H
              go_wp2
              go_ret
              exact ⟨by first | rfl | (simp [errW_none, errW_some] <;> rfl) | (simp [*, errW_none, errW_some] <;> rfl), by repeat (first | (with_reducible first | exact HB.out | apply below_alloc | apply pw_below_drewN | apply below_drew1 | refine below_set ?_ GE222.out) | exact HB.out)⟩
            · replace c17 := Bool.eq_false_iff.mpr c17
              subst c17
              have H1 : (if a0_0 = 6 then (term_takes.j2 kj9 a0_0 (a0_0 == 6)) else (if a0_0 = 7 then (term_takes.j2 kj9 a0_0 (a0_0 == 7)) else (if a0_0 = 8 then (term_takes.j2 kj9 a0_0 (a0_0 == 8)) else (if a0_0 = 9 then (term_takes.j2 kj9 a0_0 (a0_0 == 9)) else (if a0_0 = 10 then (term_takes.j2 kj9 a0_0 (a0_0 == 10)) else (if a0_0 = 19 then (term_takes.j2 kj9 a0_0 (a0_0 == 19)) else (if a0_0 = 20 then (term_takes.j2 kj9 a0_0 (a0_0 == 20)) else (term_takes.j2 kj9 a0_0 (a0_0 == 23))))))))) = some r := by rw [if_neg (show ¬ (false = true) by decide)] at H; exact H
              clear H
              have H := H1
              clear H1
              have HC18 := Aside0.mk H
              clear H
              go_upto_if 25 with (fail)
              go_cut [25] (fun v25 wc => ∃ (kq : Nat) (x25_17 : Bool), v25 = .bool x25_17 ∧ Aside0 (term_takes.j2 kq a0_0 x25_17 = some r) ∧ Aside0 (kq ≤ kj9) ∧ Aside0 (wc.heap[gb222]? = some (.cells #[.int .u8 a0_0, .int .u8 a0_1] 55 (0, 0))) ∧ Aside0 (Below w.heap.size w wc))
              case first =>
                have H := HC18.out
                clear HC18
                by_cases c19 : a0_0 = 6
                · rw [if_pos c19] at H
                  have c19b0 : (a0_0 == 6) = true := beq_iff_eq.mpr c19
                  have c19b1 : (a0_0 != 6) = false := bne_eq_false_iff_eq.mpr c19
                  clear c19
                  (first | rw [c19b0] | (simp only [i64_w, i32_w]; rw [c19b0]) | skip)
                  have H' := Aside0.mk H
                  clear H
                  go_wp2
                  go_meet
                  case rel => exact ⟨_, ((a0_0 == 6)), (by first | rfl | (simp; done) | (simp [*]; done)), H', ⟨by have := HJ1.out; have := HJ9.out; first | omega | exact Nat.le_refl _⟩, ⟨by (with_reducible repeat (first | refine blk_drewN ?_ _ | refine blk_drew ?_ | refine blk_alloc ?_ _)); exact BK222.out⟩, ⟨by repeat (first | (with_reducible first | exact HB.out | apply below_alloc | apply pw_below_drewN | apply below_drew1 | refine below_set ?_ GE222.out) | exact HB.out)⟩⟩
                · rw [if_neg c19] at H
                  have c19b0 : (a0_0 == 6) = false := beq_eq_false_iff_ne.mpr c19
                  have c19b1 : (a0_0 != 6) = true := bne_iff_ne.mpr c19
                  (first | rw [c19b0] | (simp only [i64_w, i32_w]; rw [c19b0]) | skip)
                  by_cases c20 : a0_0 = 7
                  · rw [if_pos c20] at H
                    have c20b0 : (a0_0 == 7) = true := beq_iff_eq.mpr c20
                    have c20b1 : (a0_0 != 7) = false := bne_eq_false_iff_eq.mpr c20
                    clear c20
                    have H' := Aside0.mk H
                    clear H
                    go_wp2
                    go_meet
                    case rel => exact ⟨_, ((a0_0 == 7)), (by first | rfl | (simp; done) | (simp [*]; done)), H', ⟨by have := HJ1.out; have := HJ9.out; first | omega | exact Nat.le_refl _⟩, ⟨by (with_reducible repeat (first | refine blk_drewN ?_ _ | refine blk_drew ?_ | refine blk_alloc ?_ _)); exact BK222.out⟩, ⟨by repeat (first | (with_reducible first | exact HB.out | apply below_alloc | apply pw_below_drewN | apply below_drew1 | refine below_set ?_ GE222.out) | exact HB.out)⟩⟩
                  · rw [if_neg c20] at H
                    have c20b0 : (a0_0 == 7) = false := beq_eq_false_iff_ne.mpr c20
                    have c20b1 : (a0_0 != 7) = true := bne_iff_ne.mpr c20
                    by_cases c21 : a0_0 = 8
                    · rw [if_pos c21] at H
                      have c21b0 : (a0_0 == 8) = true := beq_iff_eq.mpr c21
                      have c21b1 : (a0_0 != 8) = false := bne_eq_false_iff_eq.mpr c21
                      clear c21
                      have H' := Aside0.mk H
                      clear H
                      go_wp2
                      go_meet
                      case rel => exact ⟨_, ((a0_0 == 8)), (by first | rfl | (simp; done) | (simp [*]; done)), H', ⟨by have := HJ1.out; have := HJ9.out; first | omega | exact Nat.le_refl _⟩, ⟨by (with_reducible repeat (first | refine blk_drewN ?_ _ | refine blk_drew ?_ | refine blk_alloc ?_ _)); exact BK222.out⟩, ⟨by repeat (first | (with_reducible first | exact HB.out | apply below_alloc | apply pw_below_drewN | apply below_drew1 | refine below_set ?_ GE222.out) | exact HB.out)⟩⟩
                    · rw [if_neg c21] at H
                      have c21b0 : (a0_0 == 8) = false := beq_eq_false_iff_ne.mpr c21
                      have c21b1 : (a0_0 != 8) = true := bne_iff_ne.mpr c21
                      by_cases c22 : a0_0 = 9
                      · rw [if_pos c22] at H
                        have c22b0 : (a0_0 == 9) = true := beq_iff_eq.mpr c22
                        have c22b1 : (a0_0 != 9) = false := bne_eq_false_iff_eq.mpr c22
                        clear c22
                        have H' := Aside0.mk H
                        clear H
                        go_wp2
                        go_meet
                        case rel => exact ⟨_, ((a0_0 == 9)), (by first | rfl | (simp; done) | (simp [*]; done)), H', ⟨by have := HJ1.out; have := HJ9.out; first | omega | exact Nat.le_refl _⟩, ⟨by (with_reducible repeat (first | refine blk_drewN ?_ _ | refine blk_drew ?_ | refine blk_alloc ?_ _)); exact BK222.out⟩, ⟨by repeat (first | (with_reducible first | exact HB.out | apply below_alloc | apply pw_below_drewN | apply below_drew1 | refine below_set ?_ GE222.out) | exact HB.out)⟩⟩
                      · rw [if_neg c22] at H
                        have c22b0 : (a0_0 == 9) = false := beq_eq_false_iff_ne.mpr c22
                        have c22b1 : (a0_0 != 9) = true := bne_iff_ne.mpr c22
                        by_cases c23 : a0_0 = 10
                        · rw [if_pos c23] at H
                          have c23b0 : (a0_0 == 10) = true := beq_iff_eq.mpr c23
                          have c23b1 : (a0_0 != 10) = false := bne_eq_false_iff_eq.mpr c23
                          clear c23
                          have H' := Aside0.mk H
                          clear H
                          go_wp2
                          go_meet
                          case rel => exact ⟨_, ((a0_0 == 10)), (by first | rfl | (simp; done) | (simp [*]; done)), H', ⟨by have := HJ1.out; have := HJ9.out; first | omega | exact Nat.le_refl _⟩, ⟨by (with_reducible repeat (first | refine blk_drewN ?_ _ | refine blk_drew ?_ | refine blk_alloc ?_ _)); exact BK222.out⟩, ⟨by repeat (first | (with_reducible first | exact HB.out | apply below_alloc | apply pw_below_drewN | apply below_drew1 | refine below_set ?_ GE222.out) | exact HB.out)⟩⟩
                        · rw [if_neg c23] at H
                          have c23b0 : (a0_0 == 10) = false := beq_eq_false_iff_ne.mpr c23
                          have c23b1 : (a0_0 != 10) = true := bne_iff_ne.mpr c23
                          by_cases c24 : a0_0 = 19
                          · rw [if_pos c24] at H
                            have c24b0 : (a0_0 == 19) = true := beq_iff_eq.mpr c24
                            have c24b1 : (a0_0 != 19) = false := bne_eq_false_iff_eq.mpr c24
                            clear c24
                            have H' := Aside0.mk H
                            clear H
                            go_wp2
                            go_meet
                            case rel => exact ⟨_, ((a0_0 == 19)), (by first | rfl | (simp; done) | (simp [*]; done)), H', ⟨by have := HJ1.out; have := HJ9.out; first | omega | exact Nat.le_refl _⟩, ⟨by (with_reducible repeat (first | refine blk_drewN ?_ _ | refine blk_drew ?_ | refine blk_alloc ?_ _)); exact BK222.out⟩, ⟨by repeat (first | (with_reducible first | exact HB.out | apply below_alloc | apply pw_below_drewN | apply below_drew1 | refine below_set ?_ GE222.out) | exact HB.out)⟩⟩
                          · rw [if_neg c24] at H
                            have c24b0 : (a0_0 == 19) = false := beq_eq_false_iff_ne.mpr c24
                            have c24b1 : (a0_0 != 19) = true := bne_iff_ne.mpr c24
                            by_cases c25 : a0_0 = 20
                            · rw [if_pos c25] at H
                              have c25b0 : (a0_0 == 20) = true := beq_iff_eq.mpr c25
                              have c25b1 : (a0_0 != 20) = false := bne_eq_false_iff_eq.mpr c25
                              clear c25
                              have H' := Aside0.mk H
                              clear H
                              go_wp2
                              go_meet
                              case rel => exact ⟨_, ((a0_0 == 20)), (by first | rfl | (simp; done) | (simp [*]; done)), H', ⟨by have := HJ1.out; have := HJ9.out; first | omega | exact Nat.le_refl _⟩, ⟨by (with_reducible repeat (first | refine blk_drewN ?_ _ | refine blk_drew ?_ | refine blk_alloc ?_ _)); exact BK222.out⟩, ⟨by repeat (first | (with_reducible first | exact HB.out | apply below_alloc | apply pw_below_drewN | apply below_drew1 | refine below_set ?_ GE222.out) | exact HB.out)⟩⟩
                            · rw [if_neg c25] at H
                              have c25b0 : (a0_0 == 20) = false := beq_eq_false_iff_ne.mpr c25
                              have c25b1 : (a0_0 != 20) = true := bne_iff_ne.mpr c25
                              have H' := Aside0.mk H
                              clear H
                              go_wp2
                              go_meet
                              case rel => exact ⟨_, ((a0_0 == 23)), (by first | rfl | (simp; done) | (simp [*]; done)), H', ⟨by have := HJ1.out; have := HJ9.out; first | omega | exact Nat.le_refl _⟩, ⟨by (with_reducible repeat (first | refine blk_drewN ?_ _ | refine blk_drew ?_ | refine blk_alloc ?_ _)); exact BK222.out⟩, ⟨by repeat (first | (with_reducible first | exact HB.out | apply below_alloc | apply pw_below_drewN | apply below_drew1 | refine below_set ?_ GE222.out) | exact HB.out)⟩⟩
              case rest =>
                clear HC18
                try clear c1
                try clear c2
                try clear p2
                try clear c4
                try clear c4b0
                try clear c4b1
                try clear c6
                try clear c6b0
                try clear c6b1
                try clear c9
                try clear c10
                try clear c12
                try clear c12b0
                try clear c12b1
                try clear c13
                try clear c13b0
                try clear c13b1
                try clear c14
                try clear c14b0
                try clear c14b1
                try clear c15
                try clear c15b0
                try clear c15b1
                try clear c16
                try clear c16b0
                try clear c16b1
                try clear c17
                try clear c19
                try clear c19b0
                try clear c19b1
                try clear c20
                try clear c20b0
                try clear c20b1
                try clear c21
                try clear c21b0
                try clear c21b1
                try clear c22
                try clear c22b0
                try clear c22b1
                try clear c23
                try clear c23b0
                try clear c23b1
                try clear c24
                try clear c24b0
                try clear c24b1
                try clear c25
                try clear c25b0
                try clear c25b1
                try clear hcz11_0
                try clear hcz11_1
                try clear hcz5_0
                try clear hcz5_1
                try clear hcz7_0
                try clear hcz7_1
                try clear hcz8_0
                try clear hcz8_1
                try clear hfz11_0
                try clear hfz11_1
                try clear hfz5_0
                try clear hfz5_1
                try clear hfz7_0
                try clear hfz7_1
                try clear hfz8_0
                try clear hfz8_1
                try clear p2
                obtain ⟨kq, x25_17, rfl, HA, HJ17, BK222, HB⟩ := hcut
                cases kq with
                | zero => exact absurd HA.out (by simp [term_takes.j2])
                | succ kj17 =>
                  have H := HA.out
                  clear HA
                  simp only [term_takes.j2] at H
                  by_cases c26 : x25_17 = true
                  · subst c26
                    have H1 : (some 1) = some r := by rw [if_pos rfl] at H; exact H
                    clear H
                    have H := H1
                    clear H1
                    obtain rfl := Option.some.inj H
                    go_wp2
                    go_ret
                    exact ⟨by first | rfl | (simp [errW_none, errW_some] <;> rfl) | (simp [*, errW_none, errW_some] <;> rfl), by repeat (first | (with_reducible first | exact HB.out | apply below_alloc | apply pw_below_drewN | apply below_drew1 | refine below_set ?_ GE222.out) | exact HB.out)⟩
                  · replace c26 := Bool.eq_false_iff.mpr c26
                    subst c26
                    have H1 : (if a0_0 = 11 then (some 2) else (if a0_0 = 12 then (some 2) else (if a0_0 = 13 then (some 2) else (if a0_0 = 14 then (some 2) else (if a0_0 = 15 then (some 2) else (if a0_0 = 16 then (some 2) else (if a0_0 = 17 then (some 2) else (if a0_0 = 18 then (some 2) else (if a0_0 = 21 then (some 2) else (if a0_0 = 22 then (some 2) else (some (-1)))))))))))) = some r := by rw [if_neg (show ¬ (false = true) by decide)] at H; exact H
                    clear H
                    have H := H1
                    clear H1
                    by_cases c27 : a0_0 = 11
                    · rw [if_pos c27] at H
                      have c27b0 : (a0_0 == 11) = true := beq_iff_eq.mpr c27
                      have c27b1 : (a0_0 != 11) = false := bne_eq_false_iff_eq.mpr c27
                      clear c27
                      obtain rfl := Option.some.inj H
                      go_wp2
                      go_ret
                      exact ⟨by first | rfl | (simp [errW_none, errW_some] <;> rfl) | (simp [*, errW_none, errW_some] <;> rfl), by repeat (first | (with_reducible first | exact HB.out | apply below_alloc | apply pw_below_drewN | apply below_drew1 | refine below_set ?_ GE222.out) | exact HB.out)⟩
                    · rw [if_neg c27] at H
                      have c27b0 : (a0_0 == 11) = false := beq_eq_false_iff_ne.mpr c27
                      have c27b1 : (a0_0 != 11) = true := bne_iff_ne.mpr c27
                      by_cases c28 : a0_0 = 12
                      · rw [if_pos c28] at H
                        have c28b0 : (a0_0 == 12) = true := beq_iff_eq.mpr c28
                        have c28b1 : (a0_0 != 12) = false := bne_eq_false_iff_eq.mpr c28
                        clear c28
                        obtain rfl := Option.some.inj H
                        go_wp2
                        go_ret
                        exact ⟨by first | rfl | (simp [errW_none, errW_some] <;> rfl) | (simp [*, errW_none, errW_some] <;> rfl), by repeat (first | (with_reducible first | exact HB.out | apply below_alloc | apply pw_below_drewN | apply below_drew1 | refine below_set ?_ GE222.out) | exact HB.out)⟩
                      · rw [if_neg c28] at H
                        have c28b0 : (a0_0 == 12) = false := beq_eq_false_iff_ne.mpr c28
                        have c28b1 : (a0_0 != 12) = true := bne_iff_ne.mpr c28
                        by_cases c29 : a0_0 = 13
                        · rw [if_pos c29] at H
                          have c29b0 : (a0_0 == 13) = true := beq_iff_eq.mpr c29
                          have c29b1 : (a0_0 != 13) = false := bne_eq_false_iff_eq.mpr c29
                          clear c29
                          obtain rfl := Option.some.inj H
                          go_wp2
                          go_ret
                          exact ⟨by first | rfl | (simp [errW_none, errW_some] <;> rfl) | (simp [*, errW_none, errW_some] <;> rfl), by repeat (first | (with_reducible first | exact HB.out | apply below_alloc | apply pw_below_drewN | apply below_drew1 | refine below_set ?_ GE222.out) | exact HB.out)⟩
                        · rw [if_neg c29] at H
                          have c29b0 : (a0_0 == 13) = false := beq_eq_false_iff_ne.mpr c29
                          have c29b1 : (a0_0 != 13) = true := bne_iff_ne.mpr c29
                          by_cases c30 : a0_0 = 14
                          · rw [if_pos c30] at H
                            have c30b0 : (a0_0 == 14) = true := beq_iff_eq.mpr c30
                            have c30b1 : (a0_0 != 14) = false := bne_eq_false_iff_eq.mpr c30
                            clear c30
                            obtain rfl := Option.some.inj H
                            go_wp2
                            go_ret
                            exact ⟨by first | rfl | (simp [errW_none, errW_some] <;> rfl) | (simp [*, errW_none, errW_some] <;> rfl), by repeat (first | (with_reducible first | exact HB.out | apply below_alloc | apply pw_below_drewN | apply below_drew1 | refine below_set ?_ GE222.out) | exact HB.out)⟩
                          · rw [if_neg c30] at H
                            have c30b0 : (a0_0 == 14) = false := beq_eq_false_iff_ne.mpr c30
                            have c30b1 : (a0_0 != 14) = true := bne_iff_ne.mpr c30
                            by_cases c31 : a0_0 = 15
                            · rw [if_pos c31] at H
                              have c31b0 : (a0_0 == 15) = true := beq_iff_eq.mpr c31
                              have c31b1 : (a0_0 != 15) = false := bne_eq_false_iff_eq.mpr c31
                              clear c31
                              obtain rfl := Option.some.inj H
                              go_wp2
                              go_ret
                              exact ⟨by first | rfl | (simp [errW_none, errW_some] <;> rfl) | (simp [*, errW_none, errW_some] <;> rfl), by repeat (first | (with_reducible first | exact HB.out | apply below_alloc | apply pw_below_drewN | apply below_drew1 | refine below_set ?_ GE222.out) | exact HB.out)⟩
                            · rw [if_neg c31] at H
                              have c31b0 : (a0_0 == 15) = false := beq_eq_false_iff_ne.mpr c31
                              have c31b1 : (a0_0 != 15) = true := bne_iff_ne.mpr c31
                              by_cases c32 : a0_0 = 16
                              · rw [if_pos c32] at H
                                have c32b0 : (a0_0 == 16) = true := beq_iff_eq.mpr c32
                                have c32b1 : (a0_0 != 16) = false := bne_eq_false_iff_eq.mpr c32
                                clear c32
                                obtain rfl := Option.some.inj H
                                go_wp2
                                go_ret
                                exact ⟨by first | rfl | (simp [errW_none, errW_some] <;> rfl) | (simp [*, errW_none, errW_some] <;> rfl), by repeat (first | (with_reducible first | exact HB.out | apply below_alloc | apply pw_below_drewN | apply below_drew1 | refine below_set ?_ GE222.out) | exact HB.out)⟩
                              · rw [if_neg c32] at H
                                have c32b0 : (a0_0 == 16) = false := beq_eq_false_iff_ne.mpr c32
                                have c32b1 : (a0_0 != 16) = true := bne_iff_ne.mpr c32
                                by_cases c33 : a0_0 = 17
                                · rw [if_pos c33] at H
                                  have c33b0 : (a0_0 == 17) = true := beq_iff_eq.mpr c33
                                  have c33b1 : (a0_0 != 17) = false := bne_eq_false_iff_eq.mpr c33
                                  clear c33
                                  obtain rfl := Option.some.inj H
                                  go_wp2
                                  go_ret
                                  exact ⟨by first | rfl | (simp [errW_none, errW_some] <;> rfl) | (simp [*, errW_none, errW_some] <;> rfl), by repeat (first | (with_reducible first | exact HB.out | apply below_alloc | apply pw_below_drewN | apply below_drew1 | refine below_set ?_ GE222.out) | exact HB.out)⟩
                                · rw [if_neg c33] at H
                                  have c33b0 : (a0_0 == 17) = false := beq_eq_false_iff_ne.mpr c33
                                  have c33b1 : (a0_0 != 17) = true := bne_iff_ne.mpr c33
                                  by_cases c34 : a0_0 = 18
                                  · rw [if_pos c34] at H
                                    have c34b0 : (a0_0 == 18) = true := beq_iff_eq.mpr c34
                                    have c34b1 : (a0_0 != 18) = false := bne_eq_false_iff_eq.mpr c34
                                    clear c34
                                    obtain rfl := Option.some.inj H
                                    go_wp2
                                    go_ret
                                    exact ⟨by first | rfl | (simp [errW_none, errW_some] <;> rfl) | (simp [*, errW_none, errW_some] <;> rfl), by repeat (first | (with_reducible first | exact HB.out | apply below_alloc | apply pw_below_drewN | apply below_drew1 | refine below_set ?_ GE222.out) | exact HB.out)⟩
                                  · rw [if_neg c34] at H
                                    have c34b0 : (a0_0 == 18) = false := beq_eq_false_iff_ne.mpr c34
                                    have c34b1 : (a0_0 != 18) = true := bne_iff_ne.mpr c34
                                    by_cases c35 : a0_0 = 21
                                    · rw [if_pos c35] at H
                                      have c35b0 : (a0_0 == 21) = true := beq_iff_eq.mpr c35
                                      have c35b1 : (a0_0 != 21) = false := bne_eq_false_iff_eq.mpr c35
                                      clear c35
                                      obtain rfl := Option.some.inj H
                                      go_wp2
                                      go_ret
                                      exact ⟨by first | rfl | (simp [errW_none, errW_some] <;> rfl) | (simp [*, errW_none, errW_some] <;> rfl), by repeat (first | (with_reducible first | exact HB.out | apply below_alloc | apply pw_below_drewN | apply below_drew1 | refine below_set ?_ GE222.out) | exact HB.out)⟩
                                    · rw [if_neg c35] at H
                                      have c35b0 : (a0_0 == 21) = false := beq_eq_false_iff_ne.mpr c35
                                      have c35b1 : (a0_0 != 21) = true := bne_iff_ne.mpr c35
                                      by_cases c36 : a0_0 = 22
                                      · rw [if_pos c36] at H
                                        have c36b0 : (a0_0 == 22) = true := beq_iff_eq.mpr c36
                                        have c36b1 : (a0_0 != 22) = false := bne_eq_false_iff_eq.mpr c36
                                        clear c36
                                        obtain rfl := Option.some.inj H
                                        go_wp2
                                        go_ret
                                        exact ⟨by first | rfl | (simp [errW_none, errW_some] <;> rfl) | (simp [*, errW_none, errW_some] <;> rfl), by repeat (first | (with_reducible first | exact HB.out | apply below_alloc | apply pw_below_drewN | apply below_drew1 | refine below_set ?_ GE222.out) | exact HB.out)⟩
                                      · rw [if_neg c36] at H
                                        have c36b0 : (a0_0 == 22) = false := beq_eq_false_iff_ne.mpr c36
                                        have c36b1 : (a0_0 != 22) = true := bne_iff_ne.mpr c36
                                        obtain rfl := Option.some.inj H
                                        go_wp2
                                        go_ret
                                        exact ⟨by first | rfl | (simp [errW_none, errW_some] <;> rfl) | (simp [*, errW_none, errW_some] <;> rfl), by repeat (first | (with_reducible first | exact HB.out | apply below_alloc | apply pw_below_drewN | apply below_drew1 | refine below_set ?_ GE222.out) | exact HB.out)⟩

-- NOT PRINTED: function 123 (term_part_123)

-- NOT PRINTED: function 116 (term_part_116)
def term_plain.f (a0 : Int) : Option (Bool) := if a0 = 0 then (some true) else (if a0 = 1 then (some true) else (if a0 = 2 then (some true) else (if a0 = 6 then (some true) else (if a0 = 11 then (some true) else (if a0 = 12 then (some true) else (if a0 = 13 then (some true) else (if a0 = 14 then (some true) else (some false))))))))
set_option maxHeartbeats 8000000 in
set_option maxRecDepth 100000 in
theorem term_plain.calls (a0 : Int) (r : Bool) (w : World) (h : term_plain.f a0 = some r) :
    Calls Tryd.prog 107 #[.int .u8 a0] w fun e w' => e = .returned (.bool r) ∧ Drawn0 w w' := by
  have H : (if a0 = 0 then (some true) else (if a0 = 1 then (some true) else (if a0 = 2 then (some true) else (if a0 = 6 then (some true) else (if a0 = 11 then (some true) else (if a0 = 12 then (some true) else (if a0 = 13 then (some true) else (if a0 = 14 then (some true) else (some false))))))))) = some r := h
  clear h
  by_cases c2 : a0 = 0
  · rw [if_pos c2] at H
    have c2b0 : (a0 == 0) = true := beq_iff_eq.mpr c2
    have c2b1 : (a0 != 0) = false := bne_eq_false_iff_eq.mpr c2
    clear c2
    obtain rfl := Option.some.inj H
    go_enter Tryd.func107, Tryd.ntmps107
    go_wp2
    go_ret
    exact ⟨by first | rfl | (simp; done) | (simp [*]; done), by repeat (first | exact Drawn0.refl _ | apply Drawn0.step)⟩
  · rw [if_neg c2] at H
    have c2b0 : (a0 == 0) = false := beq_eq_false_iff_ne.mpr c2
    have c2b1 : (a0 != 0) = true := bne_iff_ne.mpr c2
    by_cases c3 : a0 = 1
    · rw [if_pos c3] at H
      have c3b0 : (a0 == 1) = true := beq_iff_eq.mpr c3
      have c3b1 : (a0 != 1) = false := bne_eq_false_iff_eq.mpr c3
      clear c3
      obtain rfl := Option.some.inj H
      go_enter Tryd.func107, Tryd.ntmps107
      go_wp2
      go_ret
      exact ⟨by first | rfl | (simp; done) | (simp [*]; done), by repeat (first | exact Drawn0.refl _ | apply Drawn0.step)⟩
    · rw [if_neg c3] at H
      have c3b0 : (a0 == 1) = false := beq_eq_false_iff_ne.mpr c3
      have c3b1 : (a0 != 1) = true := bne_iff_ne.mpr c3
      by_cases c4 : a0 = 2
      · rw [if_pos c4] at H
        have c4b0 : (a0 == 2) = true := beq_iff_eq.mpr c4
        have c4b1 : (a0 != 2) = false := bne_eq_false_iff_eq.mpr c4
        clear c4
        obtain rfl := Option.some.inj H
        go_enter Tryd.func107, Tryd.ntmps107
        go_wp2
        go_ret
        exact ⟨by first | rfl | (simp; done) | (simp [*]; done), by repeat (first | exact Drawn0.refl _ | apply Drawn0.step)⟩
      · rw [if_neg c4] at H
        have c4b0 : (a0 == 2) = false := beq_eq_false_iff_ne.mpr c4
        have c4b1 : (a0 != 2) = true := bne_iff_ne.mpr c4
        by_cases c5 : a0 = 6
        · rw [if_pos c5] at H
          have c5b0 : (a0 == 6) = true := beq_iff_eq.mpr c5
          have c5b1 : (a0 != 6) = false := bne_eq_false_iff_eq.mpr c5
          clear c5
          obtain rfl := Option.some.inj H
          go_enter Tryd.func107, Tryd.ntmps107
          go_wp2
          go_ret
          exact ⟨by first | rfl | (simp; done) | (simp [*]; done), by repeat (first | exact Drawn0.refl _ | apply Drawn0.step)⟩
        · rw [if_neg c5] at H
          have c5b0 : (a0 == 6) = false := beq_eq_false_iff_ne.mpr c5
          have c5b1 : (a0 != 6) = true := bne_iff_ne.mpr c5
          by_cases c6 : a0 = 11
          · rw [if_pos c6] at H
            have c6b0 : (a0 == 11) = true := beq_iff_eq.mpr c6
            have c6b1 : (a0 != 11) = false := bne_eq_false_iff_eq.mpr c6
            clear c6
            obtain rfl := Option.some.inj H
            go_enter Tryd.func107, Tryd.ntmps107
            go_wp2
            go_ret
            exact ⟨by first | rfl | (simp; done) | (simp [*]; done), by repeat (first | exact Drawn0.refl _ | apply Drawn0.step)⟩
          · rw [if_neg c6] at H
            have c6b0 : (a0 == 11) = false := beq_eq_false_iff_ne.mpr c6
            have c6b1 : (a0 != 11) = true := bne_iff_ne.mpr c6
            by_cases c7 : a0 = 12
            · rw [if_pos c7] at H
              have c7b0 : (a0 == 12) = true := beq_iff_eq.mpr c7
              have c7b1 : (a0 != 12) = false := bne_eq_false_iff_eq.mpr c7
              clear c7
              obtain rfl := Option.some.inj H
              go_enter Tryd.func107, Tryd.ntmps107
              go_wp2
              go_ret
              exact ⟨by first | rfl | (simp; done) | (simp [*]; done), by repeat (first | exact Drawn0.refl _ | apply Drawn0.step)⟩
            · rw [if_neg c7] at H
              have c7b0 : (a0 == 12) = false := beq_eq_false_iff_ne.mpr c7
              have c7b1 : (a0 != 12) = true := bne_iff_ne.mpr c7
              by_cases c8 : a0 = 13
              · rw [if_pos c8] at H
                have c8b0 : (a0 == 13) = true := beq_iff_eq.mpr c8
                have c8b1 : (a0 != 13) = false := bne_eq_false_iff_eq.mpr c8
                clear c8
                obtain rfl := Option.some.inj H
                go_enter Tryd.func107, Tryd.ntmps107
                go_wp2
                go_ret
                exact ⟨by first | rfl | (simp; done) | (simp [*]; done), by repeat (first | exact Drawn0.refl _ | apply Drawn0.step)⟩
              · rw [if_neg c8] at H
                have c8b0 : (a0 == 13) = false := beq_eq_false_iff_ne.mpr c8
                have c8b1 : (a0 != 13) = true := bne_iff_ne.mpr c8
                by_cases c9 : a0 = 14
                · rw [if_pos c9] at H
                  have c9b0 : (a0 == 14) = true := beq_iff_eq.mpr c9
                  have c9b1 : (a0 != 14) = false := bne_eq_false_iff_eq.mpr c9
                  clear c9
                  obtain rfl := Option.some.inj H
                  go_enter Tryd.func107, Tryd.ntmps107
                  go_wp2
                  go_ret
                  exact ⟨by first | rfl | (simp; done) | (simp [*]; done), by repeat (first | exact Drawn0.refl _ | apply Drawn0.step)⟩
                · rw [if_neg c9] at H
                  have c9b0 : (a0 == 14) = false := beq_eq_false_iff_ne.mpr c9
                  have c9b1 : (a0 != 14) = true := bne_iff_ne.mpr c9
                  obtain rfl := Option.some.inj H
                  go_enter Tryd.func107, Tryd.ntmps107
                  go_wp2
                  go_ret
                  exact ⟨by first | rfl | (simp; done) | (simp [*]; done), by repeat (first | exact Drawn0.refl _ | apply Drawn0.step)⟩
end Go.Proofs.YtaogoabnidbbpaaDoor.PText
/-! TermFits -/
namespace Go.Proofs.YtaogoabnidbbpaaDoor.PText
open Go.RowKit Go.Proofs.YtaogoabnidbbpaaDoorW.PrintWords Go.Proofs.YtaogoabnidbbpaaDoorW.PrintLast Go.Proofs.YtaogoabnidbbpaaDoorW.PrintMore
set_option linter.unusedVariables false
/-- The part's first field: is it a path? -/
theorem isPath (b c : Bool) (d f : Int) (w : World) : Calls Tryd.prog 117 #[.agg #[.bool b, .bool c, .int .i64 d, .int .i64 f]] w fun e w' => e = .returned (.bool b) ∧ Below w.heap.size w w' := by
  go_enter Tryd.func117, Tryd.ntmps117
  go_wp2
  go_ret
  exact ⟨rfl, below_alloc (Below.refl _ _) _⟩
/-- Where the first path stands among the parts, from n on; -1: nowhere. -/
def pathAt (l : List S137) (n : Nat) : Int := if n < l.length then (if (l.getD n z137).f0 = true then (n : Int) else pathAt l (n + 1)) else -1
termination_by l.length - n
theorem pathAt_any (l : List S137) : ∀ k n, l.length - n = k → decide (pathAt l n ≥ 0) = (l.drop n).any (fun x => x.f0) := by
  intro k
  induction k with
  | zero =>
    intro n h
    unfold pathAt
    rw [if_neg (by omega), List.drop_eq_nil_of_le (by omega)]
    rfl
  | succ k ih =>
    intro n h
    unfold pathAt
    have hn : n < l.length := by omega
    rw [if_pos hn, List.drop_eq_getElem_cons hn, List.any_cons]
    have e : l.getD n z137 = l[n] := by rw [List.getD_eq_getElem?_getD, List.getElem?_eq_getElem hn]; rfl
    rw [e]
    cases hb : l[n].f0
    · rw [if_neg (by decide), ih (n + 1) (by omega)]; rfl
    · rw [if_pos rfl, Bool.true_or]; simp
set_option maxHeartbeats 1000000 in
theorem index_calls (A : Option Addr) (c : Nat) (l : List S137) (w : World) (hr : Kd.C k137 w A l.length l) (hl : l.length ≤ 4611686018427387904) :
    Calls Tryd.prog 123 #[.slice A l.length c, .func (.func 117) #[] #[]] w fun e w' => e = .returned (.int .i64 (pathAt l 0)) ∧ Below w.heap.size w w' := by
  have HR := Aside0.mk hr
  clear hr
  obtain ⟨n, hn⟩ : ∃ n, n = l.length := ⟨_, rfl⟩
  rw [← hn] at HR hl ⊢
  have HN := Aside0.mk hn
  clear hn
  go_enter Tryd.func123, Tryd.ntmps123
  go_wp2
  go_loopw [8] (fun i w' => ∃ j : Nat, j ≤ n ∧ i = .int .i64 j ∧ Aside0 (pathAt l j = pathAt l 0) ∧ Aside0 (Below w.heap.size w w')) (fun i _ => n - (intOf i).toNat)
  case atStart => exact ⟨0, Nat.zero_le _, rfl, ⟨rfl⟩, ⟨Below.refl _ _⟩⟩
  case round =>
    obtain ⟨j, hj, rfl, HP, HB⟩ := hrel
    by_cases hlt : j < n
    · have hrd := HR.out
      rw [HN.out] at hrd
      obtain ⟨ad, e1, h0, h1, h2, h3⟩ := at_T137 hrd (j : Int) (by omega) (by have := HN.out; omega)
      obtain ⟨x, hx⟩ : ∃ x, x = rd_T137 l j := ⟨_, rfl⟩
      rw [← hx] at h0 h1 h2 h3
      have HX := Aside0.mk hx
      cases e1
      clear hrd hx
      rw [Int.toNat_natCast] at h0 h1 h2 h3
      replace h0 := pw_cell_below HB.out h0
      replace h1 := pw_cell_below HB.out h1
      replace h2 := pw_cell_below HB.out h2
      replace h3 := pw_cell_below HB.out h3
      have g0 : (0 : Int) ≤ j := by omega
      have g1 : (j : Int) < n := by omega
      obtain ⟨b, c1, d, f⟩ := x
      simp only at h0 h1 h2 h3
      have HP2 : pathAt l j = if b = true then (j : Int) else pathAt l (j + 1) := by
        rw [pathAt, if_pos (by have := HN.out; omega)]
        have e : l.getD j z137 = rd_T137 l j := by unfold rd_T137; rw [Int.toNat_natCast]
        rw [e, ← HX.out]
      cases b
      · rw [if_neg (by decide)] at HP2
        replace HP2 := Aside0.mk (HP.out.symm.trans HP2)
        clear HX HP
        go_wp2_with (go_at_call 117; refine (isPath false c1 d f _).mono ?_; rintro e w1 ⟨rfl, hb⟩)
        go_roundw
        case rel => exact ⟨j + 1, by omega, by go_num, ⟨HP2.out.symm⟩, ⟨below_step HB.out hb⟩⟩
        case measure => simp [intOf]; omega
      · rw [if_pos rfl] at HP2
        replace HP2 := Aside0.mk (HP.out.symm.trans HP2)
        clear HX HP
        go_wp2_with (go_at_call 117; refine (isPath true c1 d f _).mono ?_; rintro e w1 ⟨rfl, hb⟩)
        go_ret
        exact ⟨congrArg (fun x : Int => Ending.returned (.int .i64 x)) HP2.out.symm, below_step HB.out hb⟩
    · obtain rfl : j = n := by omega
      go_wp2
      go_ret
      exact ⟨congrArg (fun x : Int => Ending.returned (.int .i64 x)) (by rw [← HP.out, pathAt, if_neg (by have := HN.out; omega)]), HB.out⟩
theorem contains_calls (A : Option Addr) (c : Nat) (l : List S137) (w : World) (hr : Kd.C k137 w A l.length l) (hl : l.length ≤ 4611686018427387904) :
    Calls Tryd.prog 116 #[.slice A l.length c, .func (.func 117) #[] #[]] w fun e w' => e = .returned (.bool (l.any fun x => x.f0)) ∧ Below w.heap.size w w' := by
  have H := Aside0.mk (index_calls A c l w hr hl)
  have HP := Aside0.mk (pathAt_any l _ 0 rfl)
  clear hr hl
  generalize l.length = n at H ⊢
  go_enter Tryd.func116, Tryd.ntmps116
  go_wp2_with (go_at_call 123; refine H.out.mono ?_; rintro e w1 ⟨rfl, hb⟩)
  go_ret
  have := HP.out
  rw [List.drop_zero] at this
  exact ⟨congrArg (fun x : Bool => Ending.returned (.bool x)) this, hb⟩
/-- May the token take these parts? Nothing where there are too few. -/
def term_fits.f (a0 : Int) (l1 : List S137) : Option Bool :=
  if a0 = 17 ∨ a0 = 18 then (match l1 with | x :: y :: _ => some (x.f0 && !y.f0) | _ => none)
  else if a0 = 21 ∨ a0 = 22 then (match l1 with | x :: y :: _ => some (x.f0 && y.f0) | _ => none)
  else if a0 = 23 then (match l1 with | x :: _ => some x.f0 | _ => none)
  else if a0 = 19 then (match l1 with | x :: _ => some (!x.f0 && x.f1) | _ => none)
  else if l1.length ≤ 4611686018427387904 then some (!(l1.any fun x => x.f0)) else none
theorem first_part {A : Option Addr} {x : S137} {l : List S137} {w : World} (hr : Kd.C k137 w A (x :: l).length (x :: l)) : ∃ ad, A = some ad ∧ w.cell? ad = some (.bool x.f0) ∧ w.cell? ⟨ad.block, ad.off + 1, none⟩ = some (.bool x.f1) := by
  obtain ⟨ad, e1, h0, h1, h2, h3⟩ := at_T137 hr 0 (by omega) (by simp)
  refine ⟨ad, e1, ?_, ?_⟩
  · rw [show (0 : Int).toNat * 4 = 0 from rfl, Addr.add_zero'] at h0; exact h0
  · rw [show (0 : Int).toNat * 4 = 0 from rfl, Addr.add_zero'] at h1; exact h1
theorem second_part {ad : Addr} {x y : S137} {l : List S137} {w : World} (hr : Kd.C k137 w (some ad) (x :: y :: l).length (x :: y :: l)) : w.cell? ⟨ad.block, ad.off + 4, none⟩ = some (.bool y.f0) := by
  obtain ⟨ad1, e1, h0, h1, h2, h3⟩ := at_T137 hr 1 (by omega) (by simp; omega)
  cases e1
  simp only [show (1 : Int).toNat = 1 from rfl, Nat.reduceMul, Nat.reduceEqDiff, Go.Addr.add, ↓reduceIte] at h0
  exact h0
set_option maxHeartbeats 4000000 in
theorem fits_two (a0 : Int) (ad : Addr) (n c1 : Nat) (b b2 : Bool) (w : World) (hn : 2 ≤ n) (h0 : w.cell? ad = some (.bool b)) (h1 : w.cell? ⟨ad.block, ad.off + 4, none⟩ = some (.bool b2)) :
    ((a0 = 17 ∨ a0 = 18) → Calls Tryd.prog 106 #[.int .u8 a0, .slice (some ad) n c1] w fun e w' => e = .returned (.bool (b && !b2)) ∧ Below w.heap.size w w') ∧
    ((a0 = 21 ∨ a0 = 22) → Calls Tryd.prog 106 #[.int .u8 a0, .slice (some ad) n c1] w fun e w' => e = .returned (.bool (b && b2)) ∧ Below w.heap.size w w') := by
  have g0 : (0 : Int) < n := by omega
  have g1 : (1 : Int) < n := by omega
  constructor
  all_goals
    rintro (rfl | rfl)
    all_goals
      cases b
      all_goals
        go_enter Tryd.func106, Tryd.ntmps106
        go_wp2
        go_ret
        exact ⟨rfl, Below.refl _ _⟩
set_option maxHeartbeats 4000000 in
theorem fits_one (ad : Addr) (n c1 : Nat) (b b2 : Bool) (w : World) (hn : 1 ≤ n) (h0 : w.cell? ad = some (.bool b)) (h1 : w.cell? ⟨ad.block, ad.off + 1, none⟩ = some (.bool b2)) :
    (Calls Tryd.prog 106 #[.int .u8 23, .slice (some ad) n c1] w fun e w' => e = .returned (.bool b) ∧ Below w.heap.size w w') ∧
    (Calls Tryd.prog 106 #[.int .u8 19, .slice (some ad) n c1] w fun e w' => e = .returned (.bool (!b && b2)) ∧ Below w.heap.size w w') := by
  have g0 : (0 : Int) < n := by omega
  constructor
  all_goals
    cases b
    all_goals
      go_enter Tryd.func106, Tryd.ntmps106
      go_wp2
      go_ret
      exact ⟨rfl, Below.refl _ _⟩
set_option maxHeartbeats 4000000 in
theorem fits_else (a0 : Int) (A : Option Addr) (c : Nat) (l : List S137) (w : World) (hr : Kd.C k137 w A l.length l) (hl : l.length ≤ 4611686018427387904)
    (c17 : ¬ a0 = 17) (c18 : ¬ a0 = 18) (c21 : ¬ a0 = 21) (c22 : ¬ a0 = 22) (c23 : ¬ a0 = 23) (c19 : ¬ a0 = 19) :
    Calls Tryd.prog 106 #[.int .u8 a0, .slice A l.length c] w fun e w' => e = .returned (.bool (!(l.any fun x => x.f0))) ∧ Below w.heap.size w w' := by
  have H := Aside0.mk (contains_calls A c l w hr hl)
  clear hr hl
  generalize l.length = n at H ⊢
  generalize (l.any fun x => x.f0) = b at H ⊢
  replace c17 : (a0 == 17) = false := beq_eq_false_iff_ne.mpr c17
  replace c18 : (a0 == 18) = false := beq_eq_false_iff_ne.mpr c18
  replace c21 : (a0 == 21) = false := beq_eq_false_iff_ne.mpr c21
  replace c22 : (a0 == 22) = false := beq_eq_false_iff_ne.mpr c22
  replace c23 : (a0 == 23) = false := beq_eq_false_iff_ne.mpr c23
  replace c19 : (a0 == 19) = false := beq_eq_false_iff_ne.mpr c19
  go_enter Tryd.func106, Tryd.ntmps106
  go_wp2_with (go_at_call 116; refine H.out.mono ?_; rintro e w1 ⟨rfl, hb⟩)
  go_ret
  exact ⟨rfl, hb⟩
theorem term_fits.calls (a0 : Int) (A1 : Option Addr) (c1 : Nat) (l1 : List S137) (r : Bool) (w : World) (hr1 : Kd.C k137 w A1 l1.length l1) (hc1 : l1.length ≤ c1) (h : term_fits.f a0 l1 = some r) :
    Calls Tryd.prog 106 #[.int .u8 a0, .slice A1 l1.length c1] w fun e w' => e = .returned (.bool r) ∧ Below w.heap.size w w' := by
  unfold term_fits.f at h
  by_cases k1 : a0 = 17 ∨ a0 = 18
  · rw [if_pos k1] at h
    rcases l1 with _ | ⟨x, _ | ⟨y, l⟩⟩ <;> simp only at h
    · cases h
    · cases h
    · obtain rfl := Option.some.inj h
      obtain ⟨ad, rfl, h0, _⟩ := first_part hr1
      exact (fits_two a0 ad _ c1 x.f0 y.f0 w (by simp) h0 (second_part hr1)).1 k1
  rw [if_neg k1] at h
  by_cases k2 : a0 = 21 ∨ a0 = 22
  · rw [if_pos k2] at h
    rcases l1 with _ | ⟨x, _ | ⟨y, l⟩⟩ <;> simp only at h
    · cases h
    · cases h
    · obtain rfl := Option.some.inj h
      obtain ⟨ad, rfl, h0, _⟩ := first_part hr1
      exact (fits_two a0 ad _ c1 x.f0 y.f0 w (by simp) h0 (second_part hr1)).2 k2
  rw [if_neg k2] at h
  by_cases k3 : a0 = 23
  · rw [if_pos k3] at h
    rcases l1 with _ | ⟨x, l⟩ <;> simp only at h
    · cases h
    · obtain rfl := Option.some.inj h
      obtain ⟨ad, rfl, h0, h1⟩ := first_part hr1
      rw [k3]
      exact (fits_one ad _ c1 x.f0 x.f1 w (by simp) h0 h1).1
  rw [if_neg k3] at h
  by_cases k4 : a0 = 19
  · rw [if_pos k4] at h
    rcases l1 with _ | ⟨x, l⟩ <;> simp only at h
    · cases h
    · obtain rfl := Option.some.inj h
      obtain ⟨ad, rfl, h0, h1⟩ := first_part hr1
      rw [k4]
      exact (fits_one ad _ c1 x.f0 x.f1 w (by simp) h0 h1).2
  rw [if_neg k4] at h
  split at h
  case isFalse => cases h
  case isTrue hl =>
    obtain rfl := Option.some.inj h
    exact fits_else a0 A1 c1 l1 w hr1 hl (fun e => k1 (.inl e)) (fun e => k1 (.inr e)) (fun e => k2 (.inl e)) (fun e => k2 (.inr e)) k3 k4
end Go.Proofs.YtaogoabnidbbpaaDoor.PText
/-! TextTrmPure -/
namespace Go.Proofs.YtaogoabnidbbpaaDoor.PText.Trm
open Go.RowKit Go.Proofs.YtaogoabnidbbpaaDoorW.PrintWords Go.Proofs.YtaogoabnidbbpaaDoorW.PrintLast Go.Proofs.YtaogoabnidbbpaaDoorW.PrintMore
set_option linter.unusedVariables false
abbrev Tk := S55
abbrev Pt := S137
/-- How many parts a token takes; none: there is no such token. -/
def takesN (o p : Int) : Option Nat :=
  if (¬ o = 2 ∧ ¬ p = 0) ∨ p ≥ 8 then none
  else if o = 0 ∨ o = 1 ∨ o = 2 ∨ o = 3 ∨ o = 4 ∨ o = 5 then some 0
  else if o = 6 ∨ o = 7 ∨ o = 8 ∨ o = 9 ∨ o = 10 ∨ o = 19 ∨ o = 20 ∨ o = 23 then some 1
  else if o = 11 ∨ o = 12 ∨ o = 13 ∨ o = 14 ∨ o = 15 ∨ o = 16 ∨ o = 17 ∨ o = 18 ∨ o = 21 ∨ o = 22 then some 2
  else none
def takesI (o p : Int) : Int := match takesN o p with | some n => n | none => -1
theorem takesN_le {o p : Int} {n : Nat} (h : takesN o p = some n) : n ≤ 2 := by
  unfold takesN at h
  repeat' split at h
  all_goals first | cases h | skip
  all_goals first | omega | (obtain rfl := Option.some.inj h; omega)
theorem takes_j2 (k : Nat) (o : Int) (b : Bool) : term_takes.j2 (k + 1) o b = some (if b = true then 1 else if o = 11 ∨ o = 12 ∨ o = 13 ∨ o = 14 ∨ o = 15 ∨ o = 16 ∨ o = 17 ∨ o = 18 ∨ o = 21 ∨ o = 22 then 2 else -1) := by
  simp only [term_takes.j2]
  repeat' split
  all_goals first | rfl | (exfalso; omega)
theorem takes_j1 (k : Nat) (o : Int) (b : Bool) : term_takes.j1 (k + 2) o b = some (if b = true then 0 else if o = 6 ∨ o = 7 ∨ o = 8 ∨ o = 9 ∨ o = 10 ∨ o = 19 ∨ o = 20 ∨ o = 23 then 1 else if o = 11 ∨ o = 12 ∨ o = 13 ∨ o = 14 ∨ o = 15 ∨ o = 16 ∨ o = 17 ∨ o = 18 ∨ o = 21 ∨ o = 22 then 2 else -1) := by
  rw [term_takes.j1]
  by_cases hb : b = true
  · rw [if_pos hb, if_pos hb]
  rw [if_neg hb, if_neg hb]
  have e : ∀ c : Int, (if o = c then term_takes.j2 (k + 1) o (o == c) else none) = (if o = c then some 1 else none) := by
    intro c; split
    · rename_i h; rw [takes_j2, if_pos (by rw [h]; exact beq_self_eq_true _)]
    · rfl
  have one : ∀ (c : Int) (x : Option Int), (if o = c then term_takes.j2 (k + 1) o (o == c) else x) = (if o = c then some 1 else x) := by
    intro c x; split
    · rename_i h; rw [takes_j2, if_pos (by rw [h]; exact beq_self_eq_true _)]
    · rfl
  simp only [one]
  rw [takes_j2]
  simp only [beq_iff_eq]
  repeat' split
  all_goals first | rfl | (exfalso; omega)
theorem takes_j0 (k : Nat) (o p : Int) (b : Bool) : term_takes.j0 (k + 3) b o p = some (if b = true then -1 else if o = 0 ∨ o = 1 ∨ o = 2 ∨ o = 3 ∨ o = 4 ∨ o = 5 then 0 else if o = 6 ∨ o = 7 ∨ o = 8 ∨ o = 9 ∨ o = 10 ∨ o = 19 ∨ o = 20 ∨ o = 23 then 1 else if o = 11 ∨ o = 12 ∨ o = 13 ∨ o = 14 ∨ o = 15 ∨ o = 16 ∨ o = 17 ∨ o = 18 ∨ o = 21 ∨ o = 22 then 2 else -1) := by
  rw [term_takes.j0]
  by_cases hb : b = true
  · rw [if_pos hb, if_pos hb]
  rw [if_neg hb, if_neg hb]
  have one : ∀ (c : Int) (x : Option Int), (if o = c then term_takes.j1 (k + 2) o (o == c) else x) = (if o = c then some 0 else x) := by
    intro c x; split
    · rename_i h; rw [takes_j1, if_pos (by rw [h]; exact beq_self_eq_true _)]
    · rfl
  simp only [one]
  rw [takes_j1]
  simp only [beq_iff_eq]
  repeat' split
  all_goals first | rfl | (exfalso; omega)
theorem takesI_eq (o p : Int) : takesI o p = if (¬ o = 2 ∧ ¬ p = 0) ∨ p ≥ 8 then -1 else if o = 0 ∨ o = 1 ∨ o = 2 ∨ o = 3 ∨ o = 4 ∨ o = 5 then 0 else if o = 6 ∨ o = 7 ∨ o = 8 ∨ o = 9 ∨ o = 10 ∨ o = 19 ∨ o = 20 ∨ o = 23 then 1 else if o = 11 ∨ o = 12 ∨ o = 13 ∨ o = 14 ∨ o = 15 ∨ o = 16 ∨ o = 17 ∨ o = 18 ∨ o = 21 ∨ o = 22 then 2 else -1 := by
  unfold takesI takesN
  by_cases c : (¬ o = 2 ∧ ¬ p = 0) ∨ p ≥ 8
  · rw [if_pos c, if_pos c]
  rw [if_neg c, if_neg c]
  by_cases c : o = 0 ∨ o = 1 ∨ o = 2 ∨ o = 3 ∨ o = 4 ∨ o = 5
  · rw [if_pos c, if_pos c]; rfl
  rw [if_neg c, if_neg c]
  by_cases c : o = 6 ∨ o = 7 ∨ o = 8 ∨ o = 9 ∨ o = 10 ∨ o = 19 ∨ o = 20 ∨ o = 23
  · rw [if_pos c, if_pos c]; rfl
  rw [if_neg c, if_neg c]
  by_cases c : o = 11 ∨ o = 12 ∨ o = 13 ∨ o = 14 ∨ o = 15 ∨ o = 16 ∨ o = 17 ∨ o = 18 ∨ o = 21 ∨ o = 22
  · rw [if_pos c, if_pos c]; rfl
  rw [if_neg c, if_neg c]
theorem takes_now (k : Nat) (o p : Int) : term_takes.f (k + 3) o p = some (takesI o p) := by
  rw [takesI_eq]
  unfold term_takes.f
  rw [takes_j0]
  by_cases h2 : o = 2
  · rw [if_pos h2]
    by_cases h8 : p ≥ 8
    · rw [if_pos (decide_eq_true h8), if_pos (.inr h8)]
    · have hc : ¬ ((¬ o = 2 ∧ ¬ p = 0) ∨ p ≥ 8) := by omega
      rw [if_neg (by rw [decide_eq_true_eq]; exact h8), if_neg hc]
  · rw [if_neg h2]
    by_cases h0 : p = 0
    · have hc : ¬ ((¬ o = 2 ∧ ¬ p = 0) ∨ p ≥ 8) := by omega
      rw [if_pos h0, if_neg (by rw [decide_eq_true_eq]; omega), if_neg hc]
    · have hc : (¬ o = 2 ∧ ¬ p = 0) ∨ p ≥ 8 := .inl ⟨h2, h0⟩
      rw [if_neg h0, if_pos hc, takes_j0, if_pos rfl]
/-- Is a token one of letters alone? -/
def plainB (o : Int) : Bool := decide (o = 0 ∨ o = 1 ∨ o = 2 ∨ o = 6 ∨ o = 11 ∨ o = 12 ∨ o = 13 ∨ o = 14)
theorem plain_now (o : Int) : term_plain.f o = some (plainB o) := by
  unfold term_plain.f plainB
  repeat' split
  all_goals first | (congr 1; symm; exact decide_eq_true (by omega)) | (congr 1; symm; exact decide_eq_false (by omega))
/-- May a token take these parts (as many as it takes)? -/
def fitsB (o : Int) (a : List Pt) : Bool :=
  if o = 17 ∨ o = 18 then (match a with | x :: y :: _ => x.f0 && !y.f0 | _ => false)
  else if o = 21 ∨ o = 22 then (match a with | x :: y :: _ => x.f0 && y.f0 | _ => false)
  else if o = 23 then (match a with | x :: _ => x.f0 | _ => false)
  else if o = 19 then (match a with | x :: _ => !x.f0 && x.f1 | _ => false)
  else !(a.any fun x => x.f0)
theorem fits_now {o p : Int} {n : Nat} (h : takesN o p = some n) {a : List Pt} (ha : a.length = n) : term_fits.f o a = some (fitsB o a) := by
  have hl : a.length ≤ 4611686018427387904 := by have := takesN_le h; omega
  unfold takesN at h
  rw [if_neg (by intro c; rw [if_pos c] at h; cases h)] at h
  unfold term_fits.f fitsB
  by_cases k1 : o = 17 ∨ o = 18
  · have : n = 2 := by
      rw [if_neg (by omega), if_neg (by omega), if_pos (by omega)] at h
      exact (Option.some.inj h).symm
    subst this
    rw [if_pos k1, if_pos k1]
    match a, ha with
    | [x, y], _ => rfl
  rw [if_neg k1, if_neg k1]
  by_cases k2 : o = 21 ∨ o = 22
  · have : n = 2 := by
      rw [if_neg (by omega), if_neg (by omega), if_pos (by omega)] at h
      exact (Option.some.inj h).symm
    subst this
    rw [if_pos k2, if_pos k2]
    match a, ha with
    | [x, y], _ => rfl
  rw [if_neg k2, if_neg k2]
  by_cases k3 : o = 23
  · have : n = 1 := by
      rw [if_neg (by omega), if_pos (by omega)] at h
      exact (Option.some.inj h).symm
    subst this
    rw [if_pos k3, if_pos k3]
    match a, ha with
    | [x], _ => rfl
  rw [if_neg k3, if_neg k3]
  by_cases k4 : o = 19
  · have : n = 1 := by
      rw [if_neg (by omega), if_pos (by omega)] at h
      exact (Option.some.inj h).symm
    subst this
    rw [if_pos k4, if_pos k4]
    match a, ha with
    | [x], _ => rfl
  rw [if_neg k4, if_neg k4, if_pos hl]
/-- The part that a token puts, of these. -/
def mk (o : Int) (i : Int) (a : List Pt) : Pt :=
  ⟨decide (o ≥ 19), plainB o && a.all (fun x => x.f1), a.foldl (fun d x => max d (x.f2 + 1)) 1, (a.head?.map fun x => x.f3).getD i⟩
/-- One token: the part that it puts on the stack, and what of the stack stays. -/
def step (i : Nat) (st : List Pt) (t : Tk) : Option (List Pt × Pt) :=
  (takesN t.f0 t.f1).bind fun n =>
    if n ≤ st.length then (if fitsB t.f0 (st.drop (st.length - n)) = true then some (st.take (st.length - n), mk t.f0 i (st.drop (st.length - n))) else none) else none
/-- The run over tokens, from the place i on, with the parts so far and the stack. -/
def run : Nat → List Pt → List Pt → List Tk → Option (List Pt × List Pt)
  | _, all, st, [] => some (all, st)
  | i, all, st, t :: ts => (step i st t).bind fun q => run (i + 1) (all ++ [q.2]) (q.1 ++ [q.2]) ts
/-- A part whose block begins d later. -/
def later (d : Int) (p : Pt) : Pt := ⟨p.f0, p.f1, p.f2, p.f3 + d⟩
end Go.Proofs.YtaogoabnidbbpaaDoor.PText.Trm
/-! TextTrmBlocks -/
namespace Go.Proofs.YtaogoabnidbbpaaDoor.PText.Trm
open Go.RowKit Go.Proofs.YtaogoabnidbbpaaDoorW.PrintWords Go.Proofs.YtaogoabnidbbpaaDoorW.PrintLast Go.Proofs.YtaogoabnidbbpaaDoorW.PrintMore
set_option linter.unusedVariables false
theorem step_some {i : Nat} {st : List Pt} {t : Tk} {q : List Pt × Pt} (h : step i st t = some q) :
    ∃ n, takesN t.f0 t.f1 = some n ∧ n ≤ st.length ∧ fitsB t.f0 (st.drop (st.length - n)) = true ∧ q = (st.take (st.length - n), mk t.f0 i (st.drop (st.length - n))) := by
  unfold step at h
  cases hn : takesN t.f0 t.f1 with
  | none => rw [hn] at h; cases h
  | some n =>
    rw [hn] at h
    simp only [Option.bind_some] at h
    by_cases hl : n ≤ st.length
    · rw [if_pos hl] at h
      by_cases hf : fitsB t.f0 (st.drop (st.length - n)) = true
      · rw [if_pos hf] at h
        exact ⟨n, rfl, hl, hf, (Option.some.inj h).symm⟩
      · rw [if_neg hf] at h; cases h
    · rw [if_neg hl] at h; cases h
/-- What a run adds to the parts. -/
theorem run_all (ts : List Tk) : ∀ i all st r, run i all st ts = some r → ∃ R, r.1 = all ++ R ∧ R.length = ts.length := by
  induction ts with
  | nil => intro i all st r h; rw [run] at h; obtain rfl := Option.some.inj h; exact ⟨[], by simp, rfl⟩
  | cons t ts ih =>
    intro i all st r h
    rw [run] at h
    cases hs : step i st t with
    | none => rw [hs] at h; cases h
    | some q =>
      rw [hs] at h
      obtain ⟨R, e, hl⟩ := ih _ _ _ r h
      exact ⟨q.2 :: R, by rw [e]; simp, by simp [hl]⟩
theorem fold_max (a : List Pt) : ∀ z : Int, z ≤ a.foldl (fun d x => max d (x.f2 + 1)) z ∧ ∀ x ∈ a, x.f2 + 1 ≤ a.foldl (fun d x => max d (x.f2 + 1)) z := by
  induction a with
  | nil => intro z; exact ⟨Int.le_refl _, fun _ h => by cases h⟩
  | cons y a ih =>
    intro z
    have h := ih (max z (y.f2 + 1))
    rw [List.foldl_cons]
    refine ⟨by have := h.1; omega, ?_⟩
    intro x hx
    rcases List.mem_cons.1 hx with rfl | hx
    · have := h.1; omega
    · exact h.2 x hx
theorem fold_bound (a : List Pt) : ∀ z m : Int, z ≤ m → (∀ x ∈ a, x.f2 + 1 ≤ m) → a.foldl (fun d x => max d (x.f2 + 1)) z ≤ m := by
  induction a with
  | nil => intro z m h _; exact h
  | cons y a ih =>
    intro z m h ha
    rw [List.foldl_cons]
    refine ih _ m ?_ fun x hx => ha x (List.mem_cons_of_mem _ hx)
    have := ha y List.mem_cons_self
    omega
end Go.Proofs.YtaogoabnidbbpaaDoor.PText.Trm
/-! PTextx7 -/
namespace Go.Proofs.YtaogoabnidbbpaaDoor.PText
open Go.RowKit Go.Proofs.YtaogoabnidbbpaaDoorW.PrintWords Go.Proofs.YtaogoabnidbbpaaDoorW.PrintLast Go.Proofs.YtaogoabnidbbpaaDoorW.PrintMore
attribute [local go_sem] max2_int min2_int max_two min_two max_three min_three max_four min_four   -- for this text's walks alone
set_option linter.unusedVariables false
set_option linter.unusedSimpArgs false
mutual
def term_read.l0 : Nat → List (S137) → List (S137) → List (S55) → Int → Int → Option ((List (S137)) × Bool × Bool × Int × Int × Bool)
  | 0, _, _, _, _, _ => none
  | k + 1, x5, x6, x14, x15, x16 => if x16 < x15 then (if 0 ≤ x16 then (if x16 < (x14.length : Int) then ((term_takes.f k ((rd_T55 x14 x16).f0) ((rd_T55 x14 x16).f1)).bind fun t227 => (if t227 < 0 then (term_read.j1 k x5 x6 x16 t227 x14 x15 x16 true ((rd_T55 x14 x16).f0) ((rd_T55 x14 x16).f1)) else (term_read.j1 k x5 x6 x16 t227 x14 x15 x16 (decide (t227 > (x6.length : Int))) ((rd_T55 x14 x16).f0) ((rd_T55 x14 x16).f1)))) else (none)) else (none)) else (if (x6.length : Int) = 1 then (if 0 < (x6.length : Int) then (some (x5, (rd_T137 x6 0).f0, (rd_T137 x6 0).f1, (rd_T137 x6 0).f2, (rd_T137 x6 0).f3, true)) else (none)) else (some (([] : List (S137)), false, false, 0, 0, false)))
def term_read.j1 : Nat → List (S137) → List (S137) → Int → Int → List (S55) → Int → Int → Bool → Int → Int → Option ((List (S137)) × Bool × Bool × Int × Int × Bool)
  | 0, _, _, _, _, _, _, _, _, _, _ => none
  | k + 1, x5, x6, x7, x9, x14, x15, x16, x30, x227000, x227001 => if x30 = true then (some (([] : List (S137)), false, false, 0, 0, false)) else (if 0 ≤ (wrap64 ((x6.length : Int) - x9)) then (if (wrap64 ((x6.length : Int) - x9)) ≤ (x6.length : Int) then ((some (x6.drop ((wrap64 ((x6.length : Int) - x9)) : Int).toNat : List (S137))).bind fun y228 => ((term_fits.f x227000 y228).bind fun t232 => (if t232 = true then ((term_plain.f x227000).bind fun t233 => (term_read.l1 k x5 x6 x9 x14 x15 x16 y228 (y228.length : Int) 0 (decide (x227000 ≥ 19)) t233 1 x7)) else (some (([] : List (S137)), false, false, 0, 0, false))))) else (none)) else (none))
def term_read.l1 : Nat → List (S137) → List (S137) → Int → List (S55) → Int → Int → List (S137) → Int → Int → Bool → Bool → Int → Int → Option ((List (S137)) × Bool × Bool × Int × Int × Bool)
  | 0, _, _, _, _, _, _, _, _, _, _, _, _, _ => none
  | k + 1, x5, x6, x9, x14, x15, x16, x52, x53, x54, x235000, x235001, x235002, x235003 => if x54 < x53 then (if 0 ≤ x54 then (if x54 < (x52.length : Int) then (if x235001 = true then (if x54 = 0 then (term_read.l1 k x5 x6 x9 x14 x15 x16 x52 x53 (wrap64 (x54 + 1)) x235000 ((rd_T137 x52 x54).f1) (mx x235002 (wrap64 (((rd_T137 x52 x54).f2) + 1))) ((rd_T137 x52 x54).f3)) else (term_read.l1 k x5 x6 x9 x14 x15 x16 x52 x53 (wrap64 (x54 + 1)) x235000 ((rd_T137 x52 x54).f1) (mx x235002 (wrap64 (((rd_T137 x52 x54).f2) + 1))) x235003)) else (if x54 = 0 then (term_read.l1 k x5 x6 x9 x14 x15 x16 x52 x53 (wrap64 (x54 + 1)) x235000 false (mx x235002 (wrap64 (((rd_T137 x52 x54).f2) + 1))) ((rd_T137 x52 x54).f3)) else (term_read.l1 k x5 x6 x9 x14 x15 x16 x52 x53 (wrap64 (x54 + 1)) x235000 false (mx x235002 (wrap64 (((rd_T137 x52 x54).f2) + 1))) x235003))) else (none)) else (none)) else (if 0 ≤ (wrap64 ((x6.length : Int) - x9)) then (if (wrap64 ((x6.length : Int) - x9)) ≤ (x6.length : Int) then ((some (x6.take ((wrap64 ((x6.length : Int) - x9)) : Int).toNat : List (S137))).bind fun y237 => (if y237.length < 5864062014805 then (if x5.length < 5864062014805 then (term_read.l0 k (x5 ++ [(⟨x235000, x235001, x235002, x235003⟩ : S137)]) (y237 ++ [(⟨x235000, x235001, x235002, x235003⟩ : S137)]) x14 x15 (wrap64 (x16 + 1))) else (none)) else (none))) else (none)) else (none))
end
def term_read.f (k : Nat) (l0 : List (S55)) : Option ((List (S137)) × Bool × Bool × Int × Int × Bool) := term_read.l0 k ([] : List (S137)) ([] : List (S137)) l0 (l0.length : Int) 0
theorem term_read.mono_l : ∀ k, (∀ y0 y1 y2 y3 y4, LeO (term_read.l0 k y0 y1 y2 y3 y4) (term_read.l0 (k + 1) y0 y1 y2 y3 y4)) ∧ (∀ y0 y1 y2 y3 y4 y5 y6 y7 y8 y9, LeO (term_read.j1 k y0 y1 y2 y3 y4 y5 y6 y7 y8 y9) (term_read.j1 (k + 1) y0 y1 y2 y3 y4 y5 y6 y7 y8 y9)) ∧ (∀ y0 y1 y2 y3 y4 y5 y6 y7 y8 y9 y10 y11 y12, LeO (term_read.l1 k y0 y1 y2 y3 y4 y5 y6 y7 y8 y9 y10 y11 y12) (term_read.l1 (k + 1) y0 y1 y2 y3 y4 y5 y6 y7 y8 y9 y10 y11 y12))
  | 0 => ⟨fun _ _ _ _ _ r h => by simp [term_read.l0] at h, fun _ _ _ _ _ _ _ _ _ _ r h => by simp [term_read.j1] at h, fun _ _ _ _ _ _ _ _ _ _ _ _ _ r h => by simp [term_read.l1] at h⟩
  | k + 1 => by
    obtain ⟨ih0, ih1, ih2⟩ := term_read.mono_l k
    refine ⟨?_, ?_, ?_⟩
    · intro y0 y1 y2 y3 y4
      unfold term_read.l0
      repeat' first
      | (with_reducible exact ih0 _ _ _ _ _)
      | (with_reducible exact ih1 _ _ _ _ _ _ _ _ _ _)
      | (with_reducible exact ih2 _ _ _ _ _ _ _ _ _ _ _ _ _)
      | (with_reducible exact term_takes.mono _ _ _)
      | (with_reducible exact LeO.refl _)
      | (with_reducible exact LeO.none _)
      | (with_reducible refine LeO.ite ?_ ?_)
      | (with_reducible refine LeO.bind ?_ (fun _ => ?_))
      | exact ih0 _ _ _ _ _
      | exact ih1 _ _ _ _ _ _ _ _ _ _
      | exact ih2 _ _ _ _ _ _ _ _ _ _ _ _ _
      | exact term_takes.mono _ _ _
      | exact LeO.none _
      | refine LeO.ite ?_ ?_
      | refine LeO.bind ?_ (fun _ => ?_)
    · intro y0 y1 y2 y3 y4 y5 y6 y7 y8 y9
      unfold term_read.j1
      repeat' first
      | (with_reducible exact ih0 _ _ _ _ _)
      | (with_reducible exact ih1 _ _ _ _ _ _ _ _ _ _)
      | (with_reducible exact ih2 _ _ _ _ _ _ _ _ _ _ _ _ _)
      | (with_reducible exact term_takes.mono _ _ _)
      | (with_reducible exact LeO.refl _)
      | (with_reducible exact LeO.none _)
      | (with_reducible refine LeO.ite ?_ ?_)
      | (with_reducible refine LeO.bind ?_ (fun _ => ?_))
      | exact ih0 _ _ _ _ _
      | exact ih1 _ _ _ _ _ _ _ _ _ _
      | exact ih2 _ _ _ _ _ _ _ _ _ _ _ _ _
      | exact term_takes.mono _ _ _
      | exact LeO.none _
      | refine LeO.ite ?_ ?_
      | refine LeO.bind ?_ (fun _ => ?_)
    · intro y0 y1 y2 y3 y4 y5 y6 y7 y8 y9 y10 y11 y12
      unfold term_read.l1
      repeat' first
      | (with_reducible exact ih0 _ _ _ _ _)
      | (with_reducible exact ih1 _ _ _ _ _ _ _ _ _ _)
      | (with_reducible exact ih2 _ _ _ _ _ _ _ _ _ _ _ _ _)
      | (with_reducible exact term_takes.mono _ _ _)
      | (with_reducible exact LeO.refl _)
      | (with_reducible exact LeO.none _)
      | (with_reducible refine LeO.ite ?_ ?_)
      | (with_reducible refine LeO.bind ?_ (fun _ => ?_))
      | exact ih0 _ _ _ _ _
      | exact ih1 _ _ _ _ _ _ _ _ _ _
      | exact ih2 _ _ _ _ _ _ _ _ _ _ _ _ _
      | exact term_takes.mono _ _ _
      | exact LeO.none _
      | refine LeO.ite ?_ ?_
      | refine LeO.bind ?_ (fun _ => ?_)
theorem term_read.mono : ∀ a0 k, LeO (term_read.f k a0) (term_read.f (k + 1) a0) := by
  intro a0 k
  obtain ⟨ih0, ih1, ih2⟩ := term_read.mono_l k
  unfold term_read.f
  repeat' first
      | (with_reducible exact ih0 _ _ _ _ _)
      | (with_reducible exact ih1 _ _ _ _ _ _ _ _ _ _)
      | (with_reducible exact ih2 _ _ _ _ _ _ _ _ _ _ _ _ _)
      | (with_reducible exact term_takes.mono _ _ _)
      | (with_reducible exact LeO.refl _)
      | (with_reducible exact LeO.none _)
      | (with_reducible refine LeO.ite ?_ ?_)
      | (with_reducible refine LeO.bind ?_ (fun _ => ?_))
      | exact ih0 _ _ _ _ _
      | exact ih1 _ _ _ _ _ _ _ _ _ _
      | exact ih2 _ _ _ _ _ _ _ _ _ _ _ _ _
      | exact term_takes.mono _ _ _
      | exact LeO.none _
      | refine LeO.ite ?_ ?_
      | refine LeO.bind ?_ (fun _ => ?_)
def term_read.T11 : Bool × List (List Nat × List Nat) := (true, [([], []), ([0], [0]), ([1], [1]), ([], []), ([3], [3]), ([4], [4]), ([], []), ([2, 5, 6], [2, 5, 6]), ([], []), ([8, 7, 5, 0, 1, 2, 3, 4, 5, 6, 7, 8], [7, 8])])
def term_read.B11 : List Nat := [0, 1, 3, 0, 8, 24, 0, 127, 0, 511]
theorem term_read.tab11 : rtab .any (opsOf Tryd.f94 11) = term_read.T11 := by kernel_rfl
theorem term_read.bits11 : waitsOk term_read.T11.2 term_read.B11 = true := by kernel_rfl
def term_read.T20 : Bool × List (List Nat × List Nat) := (true, [([], []), ([], []), ([1], [1]), ([], []), ([2, 3], [2, 3]), ([0, 4], [0, 4]), ([], []), ([6], [6]), ([5, 7], [5, 7]), ([8, 8, 0, 1, 2, 3, 4, 5, 6, 7, 8], [0, 1, 8])])
def term_read.B20 : List Nat := [0, 0, 2, 0, 14, 31, 0, 64, 255, 511]
theorem term_read.tab20 : rtab .any (opsOf Tryd.f94 20) = term_read.T20 := by kernel_rfl
theorem term_read.bits20 : waitsOk term_read.T20.2 term_read.B20 = true := by kernel_rfl
set_option maxHeartbeats 8000000 in
set_option maxRecDepth 100000 in
theorem term_read.calls (k : Nat) (A0 : Option Addr) (c0 : Nat) (l0 : List (S55)) (r1 : List (S137)) (r2 : Bool) (r3 : Bool) (r4 : Int) (r5 : Int) (r6 : Bool) (w : World) (hr0 : Kd.C k55 w A0 l0.length l0) (hc0 : l0.length ≤ c0) (h : term_read.f k l0 = some (r1, r2, r3, r4, r5, r6)) :
    Calls Tryd.prog 94 #[.slice A0 l0.length c0] w fun e w' => ∃ v0_ : Value, e = .returned (.tuple #[v0_, .agg #[.bool r2, .bool r3, .int .i64 r4, .int .i64 r5], .bool r6]) ∧ Kd.R k137 137 w' w.heap.size (fun _ => True) v0_ r1 ∧ Below w.heap.size w w' := by
  have hu137 := Tryd.underlying137
  have hu55 := Tryd.underlying55
  have HR0 := Aside0.mk hr0
  have HC0 := Aside0.mk hc0
  clear hr0 hc0
  have HB := Aside0.mk (Below.refl w.heap.size w)
  have H : (term_read.l0 k ([] : List (S137)) ([] : List (S137)) l0 (l0.length : Int) 0) = some (r1, r2, r3, r4, r5, r6) := h
  clear h
  have H' := Aside0.mk H
  clear H
  go_enter Tryd.func94, Tryd.ntmps94
  go_wp2_with (first | ((with_reducible refine gate_dst (N := 3) rfl ?_); (try (refine gate_guard (by rfl) ?_; dsimp only)); refine box_event ?hg (N := 3) ?hd (cs := #[.bool false, .bool false, .int .i64 0, .int .i64 0]) (t := 137) ?hr ?_; (case hd => rfl); (case hg => rfl); (case hr => first | (go_simp; done) | (go_simp; rfl)); intro gb223 hg w2 hbox hb; have n0_ := Aside0.mk (below_step (by repeat (first | (with_reducible first | exact HB.out | apply below_alloc | apply pw_below_drewN | apply below_drew1) | exact HB.out)) hb); have n1_ := Aside0.mk (hbox); have n2_ := Aside0.mk ((by rw [hg]; exact (below_size (by repeat (first | (with_reducible first | exact HB.out | apply below_alloc | apply pw_below_drewN | apply below_drew1) | exact HB.out))) : w.heap.size ≤ gb223)); have n3_ := Aside0.mk ((by rw [hg]; exact (below_size (by repeat (first | (with_reducible first | exact HB.out | apply below_alloc | apply pw_below_drewN | apply below_drew1) | exact HB.out))) : w.heap.size ≤ gb223)); clear HB; have HB := n0_; have BK223 := n1_; have GW223 := n2_; have GE223 := n3_; clear n0_ n1_ n2_ n3_; clear hb hbox hg))
  go_loopg [5, 6, 16] k (fun kq v5 v6 v16 w' => ∃ (x5_1 : List (S137)) (x6_1 : List (S137)) (x16_1 : Int) (x224000_1 : Bool) (x224001_1 : Bool) (x224002_1 : Int) (x224003_1 : Int), v16 = .int .i64 x16_1 ∧ Aside0 (term_read.l0 kq x5_1 x6_1 l0 (l0.length : Int) x16_1 = some (r1, r2, r3, r4, r5, r6)) ∧ Aside0 (kq ≤ k) ∧ Aside0 (Kd.R k137 137 w' w.heap.size (fun k_ => some k_ ≠ (v6 : Value).ownBlock ∧ k_ ≠ gb223) v5 x5_1) ∧ Aside0 (Kd.R k137 137 w' w.heap.size (fun k_ => some k_ ≠ (v5 : Value).ownBlock ∧ k_ ≠ gb223) v6 x6_1) ∧ Aside0 (w'.heap[gb223]? = some (.cells #[.bool x224000_1, .bool x224001_1, .int .i64 x224002_1, .int .i64 x224003_1] 137 (0, 0))) ∧ Aside0 (Below w.heap.size w w'))
  case atStart => exact ⟨(([] : List (S137))), (([] : List (S137))), (0), (false), (false), (0), (0), (by first | rfl | (simp; done) | (simp [*]; done)), H', ⟨Nat.le_refl _⟩, ⟨by first | exact Kd.R_nil _ _ _ _ _ | exact Kd.N_nil _ _ _ _ _ | exact Kd.V_nil _ _ _ _ _ | exact Kd.Q_nil _ _ _ _ _ | exact Kd.S_nil _ _ _ _ _⟩, ⟨by first | exact Kd.R_nil _ _ _ _ _ | exact Kd.N_nil _ _ _ _ _ | exact Kd.V_nil _ _ _ _ _ | exact Kd.Q_nil _ _ _ _ _ | exact Kd.S_nil _ _ _ _ _⟩, ⟨by (with_reducible repeat (first | refine blk_drewN ?_ _ | refine blk_drew ?_ | refine blk_alloc ?_ _)); exact BK223.out⟩, ⟨by repeat (first | (with_reducible first | exact HB.out | apply below_alloc | apply pw_below_drewN | apply below_drew1 | refine below_set ?_ GE223.out) | exact HB.out)⟩⟩
  case round =>
    clear H'
    try clear p2
    obtain ⟨x5_1, x6_1, x16_1, x224000_1, x224001_1, x224002_1, x224003_1, rfl, HA, HK1, HO_5, HO_6, BK223, HB⟩ := hrel
    cases gk with
    | zero => exact absurd HA.out (by simp [term_read.l0])
    | succ k1 =>
      have H := HA.out
      clear HA
      simp only [term_read.l0] at H
      by_cases c3 : x16_1 < (l0.length : Int)
      rotate_left
      · rw [if_neg c3] at H
        have c3b0 : decide (x16_1 < (l0.length : Int)) = false := decide_eq_false c3
        clear c3
        by_cases c93 : (x6_1.length : Int) = 1
        · rw [if_pos c93] at H
          have c93b0 : ((x6_1.length : Int) == 1) = true := beq_iff_eq.mpr c93
          have c93b1 : ((x6_1.length : Int) != 1) = false := bne_eq_false_iff_eq.mpr c93
          clear c93
          by_cases c94 : 0 < (x6_1.length : Int)
          · rw [if_pos c94] at H
            have c94b0 : decide (0 < (x6_1.length : Int)) = true := decide_eq_true c94
            have c94b1 : decide (0 < x6_1.length) = true := decide_eq_true (by omega)
            clear c94
            simp only [Option.some.injEq, Prod.mk.injEq] at H
            obtain ⟨rfl, rfl, rfl, rfl, rfl, rfl⟩ := H
            obtain ⟨Ao95, co95, eo95⟩ := Kd.R_slice HO_6.out
            subst eo95
            try go_wp2
            have n0_ := Aside0.mk (Kd.R_drew HO_5.out)
            have n1_ := Aside0.mk (Kd.R_drew HO_6.out)
            have n2_ := Aside0.mk (blk_drew BK223.out)
            have n3_ := Aside0.mk (below_drew1 HB.out)
            clear HO_5
            clear HO_6
            clear BK223
            clear HB
            have HO_5 := n0_
            have HO_6 := n1_
            have BK223 := n2_
            have HB := n3_
            clear n0_ n1_ n2_ n3_
            have p224 : 0 ≤ (0 : Int) := (by omega)
            have q224 : 0 < (x6_1.length : Int) := of_decide_eq_true (by first | (with_reducible assumption) | assumption)
            obtain ⟨ad224, e224, hx224_0, hx224_1, hx224_2, hx224_3⟩ := at_T137 (Kd.R_reads' HO_6.out).2.2 0 p224 q224
            cases e224
            have qi224 : (0 < x6_1.length) = True := eq_true (by omega)
            (try rw [show ((0 : Int)).toNat = 0 from rfl] at hx224_0)
            (try rw [show 0 * 4 = 0 from rfl] at hx224_0)
            (try rw [Addr.add_zero'] at hx224_0)
            (try rw [show ((0 : Int)).toNat = 0 from rfl] at hx224_1)
            (try rw [show 0 * 4 = 0 from rfl] at hx224_1)
            (try rw [Addr.add_zero'] at hx224_1)
            (try rw [show ((0 : Int)).toNat = 0 from rfl] at hx224_2)
            (try rw [show 0 * 4 = 0 from rfl] at hx224_2)
            (try rw [Addr.add_zero'] at hx224_2)
            (try rw [show ((0 : Int)).toNat = 0 from rfl] at hx224_3)
            (try rw [show 0 * 4 = 0 from rfl] at hx224_3)
            (try rw [Addr.add_zero'] at hx224_3)
            replace p224 := eq_true p224
            replace q224 := eq_true q224
            refine start_ (n := 7) (S := fun w' => w'.cell? ad224 = some (.bool ((rd_T137 x6_1 0).f0)) ∧ w'.cell? ⟨ad224.block, ad224.off + 1, none⟩ = some (.bool ((rd_T137 x6_1 0).f1)) ∧ w'.cell? ⟨ad224.block, ad224.off + 2, none⟩ = some (.int .i64 ((rd_T137 x6_1 0).f2)) ∧ w'.cell? ⟨ad224.block, ad224.off + 3, none⟩ = some (.int .i64 ((rd_T137 x6_1 0).f3))) (ds := []) #[false, false, false, false, false, false, false] (by kernel_rfl) rfl rfl ⟨hx224_0, hx224_1, hx224_2, hx224_3⟩ (fun hHeld => ?_)
            generalize wr.drew = w96 at HO_5 HO_6 BK223 HB hx224_0 hx224_1 hx224_2 hx224_3 hHeld ⊢
            refine pure_ (i := 0) (N := some 97) (v := ?_) (a' := ?_) #[true, false, false, false, false, false, false] rfl rfl (by kernel_rfl) (fun _ _ _ h => h) (Or.inl ⟨by rfl, ?_⟩) ?_ ?_
            rotate_left
            · intro w'
              go_simp
              with_reducible rfl
            rotate_left
            · simp only [Act.put, List.setIfInBounds_toArray, List.set_cons_zero, List.set_cons_succ, i64_w, i32_w]
              rfl
            refine pure_ (i := 1) (N := some 98) (v := ?_) (a' := ?_) #[true, true, false, false, false, false, false] rfl rfl (by kernel_rfl) (fun _ _ _ h => h) (Or.inl ⟨by rfl, ?_⟩) ?_ ?_
            rotate_left
            · intro w'
              go_simp
              with_reducible rfl
            rotate_left
            · simp only [Act.put, List.setIfInBounds_toArray, List.set_cons_zero, List.set_cons_succ, i64_w, i32_w]
              rfl
            refine pure_ (i := 2) (N := some 99) (v := ?_) (a' := ?_) #[true, true, true, false, false, false, false] rfl rfl (by kernel_rfl) (fun _ _ _ h => h) (Or.inl ⟨by rfl, ?_⟩) ?_ ?_
            rotate_left
            · intro w'
              go_simp
              with_reducible rfl
            rotate_left
            · simp only [Act.put, List.setIfInBounds_toArray, List.set_cons_zero, List.set_cons_succ, i64_w, i32_w]
              rfl
            refine pure_ (i := 4) (N := some 2) (v := ?_) (a' := ?_) #[true, true, true, false, true, false, false] rfl rfl (by kernel_rfl) (fun _ _ _ h => h) (Or.inl ⟨by rfl, ?_⟩) ?_ ?_
            rotate_left
            · intro w'
              go_simp
              with_reducible rfl
            rotate_left
            · simp only [Act.put, List.setIfInBounds_toArray, List.set_cons_zero, List.set_cons_succ, i64_w, i32_w]
              rfl
            refine take_ (i := 3) (N := some 100) (v := ?_) (a' := ?_) #[true, true, true, true, true, false, false] rfl rfl (by kernel_rfl) (fun _ _ _ h => h) (Or.inl ⟨by rfl, ?_⟩) hHeld ?_ ?_
            rotate_left
            · rintro w' ⟨s0, s1, s2, s3⟩
              go_simp
              with_reducible rfl
            rotate_left
            · simp only [Act.put, List.setIfInBounds_toArray, List.set_cons_zero, List.set_cons_succ, i64_w, i32_w]
              rfl
            refine one_ (i := 5) (N := none) #[true, true, true, true, true, true, false] rfl rfl (by kernel_rfl) (by decide) (fun K hK => ?_)
            have hs97 : w96.cell? ⟨gb223, 0, none⟩ = some (.bool x224000_1) := (blk_cell BK223.out 0).trans rfl
            have hfs97 := blk_frozen BK223.out 0
            have hs98 : w96.cell? ⟨gb223, 1, none⟩ = some (.bool x224001_1) := (blk_cell BK223.out 1).trans rfl
            have hfs98 := blk_frozen BK223.out 1
            have hs99 : w96.cell? ⟨gb223, 2, none⟩ = some (.int .i64 x224002_1) := (blk_cell BK223.out 2).trans rfl
            have hfs99 := blk_frozen BK223.out 2
            have hs100 : w96.cell? ⟨gb223, 3, none⟩ = some (.int .i64 x224003_1) := (blk_cell BK223.out 3).trans rfl
            have hfs100 := blk_frozen BK223.out 3
            refine skip_ (w1 := ?_) (by rfl) rfl ?_ ?_
            rotate_left
            · go_simp
              rfl
            refine hK.out _ _ ⟨((cell_far (p := ⟨gb223, _, none⟩) (by first | exact Kd.own_blk (Kd.R_away HO_6.out (fun _ hk => hk.2)) | (rw [add_block]; exact Kd.own_blk (Kd.R_away HO_6.out (fun _ hk => hk.2))) | (show (Addr.add _ _).block ≠ _; rw [add_block]; exact Kd.own_blk (Kd.R_away HO_6.out (fun _ hk => hk.2))) | (dsimp only; exact Kd.own_blk (Kd.R_away HO_6.out (fun _ hk => hk.2)))) _).trans (((cell_far (p := ⟨gb223, _, none⟩) (by first | exact Kd.own_blk (Kd.R_away HO_6.out (fun _ hk => hk.2)) | (rw [add_block]; exact Kd.own_blk (Kd.R_away HO_6.out (fun _ hk => hk.2))) | (show (Addr.add _ _).block ≠ _; rw [add_block]; exact Kd.own_blk (Kd.R_away HO_6.out (fun _ hk => hk.2))) | (dsimp only; exact Kd.own_blk (Kd.R_away HO_6.out (fun _ hk => hk.2)))) _).trans (((cell_far (p := ⟨gb223, _, none⟩) (by first | exact Kd.own_blk (Kd.R_away HO_6.out (fun _ hk => hk.2)) | (rw [add_block]; exact Kd.own_blk (Kd.R_away HO_6.out (fun _ hk => hk.2))) | (show (Addr.add _ _).block ≠ _; rw [add_block]; exact Kd.own_blk (Kd.R_away HO_6.out (fun _ hk => hk.2))) | (dsimp only; exact Kd.own_blk (Kd.R_away HO_6.out (fun _ hk => hk.2)))) _).trans (((cell_far (p := ⟨gb223, _, none⟩) (by first | exact Kd.own_blk (Kd.R_away HO_6.out (fun _ hk => hk.2)) | (rw [add_block]; exact Kd.own_blk (Kd.R_away HO_6.out (fun _ hk => hk.2))) | (show (Addr.add _ _).block ≠ _; rw [add_block]; exact Kd.own_blk (Kd.R_away HO_6.out (fun _ hk => hk.2))) | (dsimp only; exact Kd.own_blk (Kd.R_away HO_6.out (fun _ hk => hk.2)))) _).trans (hHeld.1)))))))), ((cell_far (p := ⟨gb223, _, none⟩) (by first | exact Kd.own_blk (Kd.R_away HO_6.out (fun _ hk => hk.2)) | (rw [add_block]; exact Kd.own_blk (Kd.R_away HO_6.out (fun _ hk => hk.2))) | (show (Addr.add _ _).block ≠ _; rw [add_block]; exact Kd.own_blk (Kd.R_away HO_6.out (fun _ hk => hk.2))) | (dsimp only; exact Kd.own_blk (Kd.R_away HO_6.out (fun _ hk => hk.2)))) _).trans (((cell_far (p := ⟨gb223, _, none⟩) (by first | exact Kd.own_blk (Kd.R_away HO_6.out (fun _ hk => hk.2)) | (rw [add_block]; exact Kd.own_blk (Kd.R_away HO_6.out (fun _ hk => hk.2))) | (show (Addr.add _ _).block ≠ _; rw [add_block]; exact Kd.own_blk (Kd.R_away HO_6.out (fun _ hk => hk.2))) | (dsimp only; exact Kd.own_blk (Kd.R_away HO_6.out (fun _ hk => hk.2)))) _).trans (((cell_far (p := ⟨gb223, _, none⟩) (by first | exact Kd.own_blk (Kd.R_away HO_6.out (fun _ hk => hk.2)) | (rw [add_block]; exact Kd.own_blk (Kd.R_away HO_6.out (fun _ hk => hk.2))) | (show (Addr.add _ _).block ≠ _; rw [add_block]; exact Kd.own_blk (Kd.R_away HO_6.out (fun _ hk => hk.2))) | (dsimp only; exact Kd.own_blk (Kd.R_away HO_6.out (fun _ hk => hk.2)))) _).trans (((cell_far (p := ⟨gb223, _, none⟩) (by first | exact Kd.own_blk (Kd.R_away HO_6.out (fun _ hk => hk.2)) | (rw [add_block]; exact Kd.own_blk (Kd.R_away HO_6.out (fun _ hk => hk.2))) | (show (Addr.add _ _).block ≠ _; rw [add_block]; exact Kd.own_blk (Kd.R_away HO_6.out (fun _ hk => hk.2))) | (dsimp only; exact Kd.own_blk (Kd.R_away HO_6.out (fun _ hk => hk.2)))) _).trans (hHeld.2.1)))))))), ((cell_far (p := ⟨gb223, _, none⟩) (by first | exact Kd.own_blk (Kd.R_away HO_6.out (fun _ hk => hk.2)) | (rw [add_block]; exact Kd.own_blk (Kd.R_away HO_6.out (fun _ hk => hk.2))) | (show (Addr.add _ _).block ≠ _; rw [add_block]; exact Kd.own_blk (Kd.R_away HO_6.out (fun _ hk => hk.2))) | (dsimp only; exact Kd.own_blk (Kd.R_away HO_6.out (fun _ hk => hk.2)))) _).trans (((cell_far (p := ⟨gb223, _, none⟩) (by first | exact Kd.own_blk (Kd.R_away HO_6.out (fun _ hk => hk.2)) | (rw [add_block]; exact Kd.own_blk (Kd.R_away HO_6.out (fun _ hk => hk.2))) | (show (Addr.add _ _).block ≠ _; rw [add_block]; exact Kd.own_blk (Kd.R_away HO_6.out (fun _ hk => hk.2))) | (dsimp only; exact Kd.own_blk (Kd.R_away HO_6.out (fun _ hk => hk.2)))) _).trans (((cell_far (p := ⟨gb223, _, none⟩) (by first | exact Kd.own_blk (Kd.R_away HO_6.out (fun _ hk => hk.2)) | (rw [add_block]; exact Kd.own_blk (Kd.R_away HO_6.out (fun _ hk => hk.2))) | (show (Addr.add _ _).block ≠ _; rw [add_block]; exact Kd.own_blk (Kd.R_away HO_6.out (fun _ hk => hk.2))) | (dsimp only; exact Kd.own_blk (Kd.R_away HO_6.out (fun _ hk => hk.2)))) _).trans (((cell_far (p := ⟨gb223, _, none⟩) (by first | exact Kd.own_blk (Kd.R_away HO_6.out (fun _ hk => hk.2)) | (rw [add_block]; exact Kd.own_blk (Kd.R_away HO_6.out (fun _ hk => hk.2))) | (show (Addr.add _ _).block ≠ _; rw [add_block]; exact Kd.own_blk (Kd.R_away HO_6.out (fun _ hk => hk.2))) | (dsimp only; exact Kd.own_blk (Kd.R_away HO_6.out (fun _ hk => hk.2)))) _).trans (hHeld.2.2.1)))))))), ((cell_far (p := ⟨gb223, _, none⟩) (by first | exact Kd.own_blk (Kd.R_away HO_6.out (fun _ hk => hk.2)) | (rw [add_block]; exact Kd.own_blk (Kd.R_away HO_6.out (fun _ hk => hk.2))) | (show (Addr.add _ _).block ≠ _; rw [add_block]; exact Kd.own_blk (Kd.R_away HO_6.out (fun _ hk => hk.2))) | (dsimp only; exact Kd.own_blk (Kd.R_away HO_6.out (fun _ hk => hk.2)))) _).trans (((cell_far (p := ⟨gb223, _, none⟩) (by first | exact Kd.own_blk (Kd.R_away HO_6.out (fun _ hk => hk.2)) | (rw [add_block]; exact Kd.own_blk (Kd.R_away HO_6.out (fun _ hk => hk.2))) | (show (Addr.add _ _).block ≠ _; rw [add_block]; exact Kd.own_blk (Kd.R_away HO_6.out (fun _ hk => hk.2))) | (dsimp only; exact Kd.own_blk (Kd.R_away HO_6.out (fun _ hk => hk.2)))) _).trans (((cell_far (p := ⟨gb223, _, none⟩) (by first | exact Kd.own_blk (Kd.R_away HO_6.out (fun _ hk => hk.2)) | (rw [add_block]; exact Kd.own_blk (Kd.R_away HO_6.out (fun _ hk => hk.2))) | (show (Addr.add _ _).block ≠ _; rw [add_block]; exact Kd.own_blk (Kd.R_away HO_6.out (fun _ hk => hk.2))) | (dsimp only; exact Kd.own_blk (Kd.R_away HO_6.out (fun _ hk => hk.2)))) _).trans (((cell_far (p := ⟨gb223, _, none⟩) (by first | exact Kd.own_blk (Kd.R_away HO_6.out (fun _ hk => hk.2)) | (rw [add_block]; exact Kd.own_blk (Kd.R_away HO_6.out (fun _ hk => hk.2))) | (show (Addr.add _ _).block ≠ _; rw [add_block]; exact Kd.own_blk (Kd.R_away HO_6.out (fun _ hk => hk.2))) | (dsimp only; exact Kd.own_blk (Kd.R_away HO_6.out (fun _ hk => hk.2)))) _).trans (hHeld.2.2.2))))))))⟩ (fun hHeld => ?_)
            clear hK K
            refine pure_ (i := 6) (N := some 4) (v := ?_) (a' := ?_) #[true, true, true, true, true, true, true] rfl rfl (by kernel_rfl) (fun _ _ _ h => h) (Or.inl ⟨by rfl, ?_⟩) ?_ ?_
            rotate_left
            · intro w'
              go_simp
              with_reducible rfl
            rotate_left
            · simp only [Act.put, List.setIfInBounds_toArray, List.set_cons_zero, List.set_cons_succ, i64_w, i32_w]
              rfl
            refine done_ (by kernel_rfl) ?_
            try go_wp2
            refine bodyPost_ret (results_list (rs := [.tmp 2, .cell 3 137, .tmp 4]) rfl (by simp) (.tmp (.cell gb223 137 #[.bool ((rd_T137 x6_1 0).f0), .bool ((rd_T137 x6_1 0).f1), .int .i64 ((rd_T137 x6_1 0).f2), .int .i64 ((rd_T137 x6_1 0).f3)] (0, 0) _ rfl (by (with_reducible repeat (first | refine blk_drewN ?_ _ | refine blk_drew ?_ | refine blk_alloc ?_ _)); refine blk_put (cs := #[.bool ((rd_T137 x6_1 0).f0), .bool ((rd_T137 x6_1 0).f1), .int .i64 ((rd_T137 x6_1 0).f2), .int .i64 x224003_1]) ?_ 3 _ rfl; (with_reducible repeat (first | refine blk_drewN ?_ _ | refine blk_drew ?_ | refine blk_alloc ?_ _)); refine blk_put (cs := #[.bool ((rd_T137 x6_1 0).f0), .bool ((rd_T137 x6_1 0).f1), .int .i64 x224002_1, .int .i64 x224003_1]) ?_ 2 _ rfl; (with_reducible repeat (first | refine blk_drewN ?_ _ | refine blk_drew ?_ | refine blk_alloc ?_ _)); refine blk_put (cs := #[.bool ((rd_T137 x6_1 0).f0), .bool x224001_1, .int .i64 x224002_1, .int .i64 x224003_1]) ?_ 1 _ rfl; (with_reducible repeat (first | refine blk_drewN ?_ _ | refine blk_drew ?_ | refine blk_alloc ?_ _)); refine blk_put (cs := #[.bool x224000_1, .bool x224001_1, .int .i64 x224002_1, .int .i64 x224003_1]) ?_ 0 _ rfl; (with_reducible repeat (first | refine blk_drewN ?_ _ | refine blk_drew ?_ | refine blk_alloc ?_ _)); exact BK223.out) Tryd.underlying137 rfl (by kernel_rfl) (.tmp .nil)))) rfl ?_
            exact ⟨_, by first | rfl | (simp [errW_none, errW_some] <;> rfl) | (simp [*, errW_none, errW_some] <;> rfl), by (with_reducible repeat (first | apply Kd.R_alloc | apply Kd.R_drewN | apply Kd.R_drew)); exact Kd.R_mono (Kd.R_far (p := ⟨gb223, 3, none⟩) (Kd.R_far (p := ⟨gb223, 2, none⟩) (Kd.R_far (p := ⟨gb223, 1, none⟩) (Kd.R_far (p := ⟨gb223, 0, none⟩) (Kd.R_mono HO_5.out (fun k_ hk => (⟨hk, hk.2⟩ : _ ∧ k_ ≠ gb223))) (fun _ hk => hk.2) (.bool ((rd_T137 x6_1 0).f0))) (fun _ hk => hk.2) (.bool ((rd_T137 x6_1 0).f1))) (fun _ hk => hk.2) (.int .i64 ((rd_T137 x6_1 0).f2))) (fun _ hk => hk.2) (.int .i64 ((rd_T137 x6_1 0).f3))) (fun _ hk => trivial), by repeat (first | (with_reducible first | exact HB.out | apply below_alloc | apply pw_below_drewN | apply below_drew1 | refine below_set ?_ GE223.out) | exact HB.out)⟩
          · rw [if_neg c94] at H
            exact absurd H (by simp)
        · rw [if_neg c93] at H
          have c93b0 : ((x6_1.length : Int) == 1) = false := beq_eq_false_iff_ne.mpr c93
          have c93b1 : ((x6_1.length : Int) != 1) = true := bne_iff_ne.mpr c93
          simp only [Option.some.injEq, Prod.mk.injEq] at H
          obtain ⟨rfl, rfl, rfl, rfl, rfl, rfl⟩ := H
          obtain ⟨Ao101, co101, eo101⟩ := Kd.R_slice HO_6.out
          subst eo101
          have hcz102_0 : wr.cell? ⟨gb223, 0, none⟩ = some (.bool x224000_1) := (blk_cell BK223.out 0).trans rfl
          have hcz102_1 : wr.cell? ⟨gb223, 1, none⟩ = some (.bool x224001_1) := (blk_cell BK223.out 1).trans rfl
          have hcz102_2 : wr.cell? ⟨gb223, 2, none⟩ = some (.int .i64 x224002_1) := (blk_cell BK223.out 2).trans rfl
          have hcz102_3 : wr.cell? ⟨gb223, 3, none⟩ = some (.int .i64 x224003_1) := (blk_cell BK223.out 3).trans rfl
          have hfz102_0 := blk_frozen BK223.out 0
          have hfz102_1 := blk_frozen BK223.out 1
          have hfz102_2 := blk_frozen BK223.out 2
          have hfz102_3 := blk_frozen BK223.out 3
          go_wp2
          refine bodyPost_ret (results_list (rs := [.tmp 2, .cell 3 137, .tmp 4]) rfl (by simp) (.tmp (.cell gb223 137 #[.bool false, .bool false, .int .i64 0, .int .i64 0] (0, 0) _ rfl (by (with_reducible repeat (first | refine blk_drewN ?_ _ | refine blk_drew ?_ | refine blk_alloc ?_ _)); refine blk_put (cs := #[.bool false, .bool false, .int .i64 0, .int .i64 x224003_1]) ?_ 3 _ rfl; (with_reducible repeat (first | refine blk_drewN ?_ _ | refine blk_drew ?_ | refine blk_alloc ?_ _)); refine blk_put (cs := #[.bool false, .bool false, .int .i64 x224002_1, .int .i64 x224003_1]) ?_ 2 _ rfl; (with_reducible repeat (first | refine blk_drewN ?_ _ | refine blk_drew ?_ | refine blk_alloc ?_ _)); refine blk_put (cs := #[.bool false, .bool x224001_1, .int .i64 x224002_1, .int .i64 x224003_1]) ?_ 1 _ rfl; (with_reducible repeat (first | refine blk_drewN ?_ _ | refine blk_drew ?_ | refine blk_alloc ?_ _)); refine blk_put (cs := #[.bool x224000_1, .bool x224001_1, .int .i64 x224002_1, .int .i64 x224003_1]) ?_ 0 _ rfl; (with_reducible repeat (first | refine blk_drewN ?_ _ | refine blk_drew ?_ | refine blk_alloc ?_ _)); exact BK223.out) Tryd.underlying137 rfl (by kernel_rfl) (.tmp .nil)))) rfl ?_
          exact ⟨_, by first | rfl | (simp [errW_none, errW_some] <;> rfl) | (simp [*, errW_none, errW_some] <;> rfl), by first | exact Kd.R_nil _ _ _ _ _ | exact Kd.N_nil _ _ _ _ _ | exact Kd.V_nil _ _ _ _ _ | exact Kd.Q_nil _ _ _ _ _ | exact Kd.S_nil _ _ _ _ _, by repeat (first | (with_reducible first | exact HB.out | apply below_alloc | apply pw_below_drewN | apply below_drew1 | refine below_set ?_ GE223.out) | exact HB.out)⟩

      · rw [if_pos c3] at H
        have c3b0 : decide (x16_1 < (l0.length : Int)) = true := decide_eq_true c3
        clear c3
        by_cases c4 : 0 ≤ x16_1
        · rw [if_pos c4] at H
          have c4b0 : decide (0 ≤ x16_1) = true := decide_eq_true c4
          clear c4
          by_cases c5 : x16_1 < (l0.length : Int)
          · rw [if_pos c5] at H
            have c5b0 : decide (x16_1 < (l0.length : Int)) = true := decide_eq_true c5
            clear c5
            replace H := Option.bind_eq_some_iff.mp H
            obtain ⟨t227, A60, H⟩ := H
            replace H : (if t227 < 0 then (term_read.j1 k1 x5_1 x6_1 x16_1 t227 l0 (l0.length : Int) x16_1 true ((rd_T55 l0 x16_1).f0) ((rd_T55 l0 x16_1).f1)) else (term_read.j1 k1 x5_1 x6_1 x16_1 t227 l0 (l0.length : Int) x16_1 (decide (t227 > (x6_1.length : Int))) ((rd_T55 l0 x16_1).f0) ((rd_T55 l0 x16_1).f1))) = some (r1, r2, r3, r4, r5, r6) := H
            have A6 := Aside0.mk A60
            clear A60
            have HC7 := Aside0.mk H
            clear H
            have p225 : 0 ≤ (x16_1 : Int) := of_decide_eq_true (by first | (with_reducible assumption) | assumption)
            have q225 : x16_1 < (l0.length : Int) := of_decide_eq_true (by first | (with_reducible assumption) | assumption)
            obtain ⟨ad225, e225, hx225_0, hx225_1⟩ := at_T55 HR0.out x16_1 p225 q225
            cases e225
            replace hx225_0 := (HB.out.cell (World.block_lt_of_cell? w _ hx225_0)).trans hx225_0
            replace hx225_1 := (HB.out.cell (World.block_lt_of_cell? w _ hx225_1)).trans hx225_1
            replace p225 := eq_true p225
            replace q225 := eq_true q225
            go_upto_region 6 with (first | ((with_reducible refine gate_dst (N := 8) rfl ?_); (try (refine gate_guard (by rfl) ?_; dsimp only)); refine box_event ?hg (N := 8) ?hd (cs := #[.int .u8 0, .int .u8 0]) (t := 55) ?hr ?_; (case hd => rfl); (case hg => rfl); (case hr => first | (go_simp; done) | (go_simp; rfl)); intro gb226 hg w8 hbox hb; have n0_ := Aside0.mk (Kd.R_below (by (with_reducible repeat (first | apply Kd.R_alloc | apply Kd.R_drewN | apply Kd.R_drew)); exact HO_5.out) hb); have n1_ := Aside0.mk (Kd.R_below (by (with_reducible repeat (first | apply Kd.R_alloc | apply Kd.R_drewN | apply Kd.R_drew)); exact HO_6.out) hb); have n2_ := Aside0.mk (blk_below (g := gb223) (o := .cells #[.bool x224000_1, .bool x224001_1, .int .i64 x224002_1, .int .i64 x224003_1] 137 (0, 0)) (by (with_reducible repeat (first | refine blk_drewN ?_ _ | refine blk_drew ?_ | refine blk_alloc ?_ _)); exact BK223.out) hb); have n3_ := Aside0.mk (below_step (by repeat (first | (with_reducible first | exact HB.out | apply below_alloc | apply pw_below_drewN | apply below_drew1 | refine below_set ?_ GE223.out) | exact HB.out)) hb); have n4_ := Aside0.mk (hbox); have n5_ := Aside0.mk ((by rw [hg]; exact (below_size (by repeat (first | (with_reducible first | exact HB.out | apply below_alloc | apply pw_below_drewN | apply below_drew1 | refine below_set ?_ GE223.out) | exact HB.out))) : w.heap.size ≤ gb226)); have n6_ := Aside0.mk ((by rw [hg]; exact (below_size (by repeat (first | (with_reducible first | exact HB.out | apply below_alloc | apply pw_below_drewN | apply below_drew1 | refine below_set ?_ GE223.out) | exact HB.out))) : w.heap.size ≤ gb226)); have n7_ := Aside0.mk ((by rw [hg]; exact Nat.ne_of_lt (blk_lt (g := gb223) (o := .cells #[.bool x224000_1, .bool x224001_1, .int .i64 x224002_1, .int .i64 x224003_1] 137 (0, 0)) (by (with_reducible repeat (first | refine blk_drewN ?_ _ | refine blk_drew ?_ | refine blk_alloc ?_ _)); exact BK223.out)) : gb223 ≠ gb226)); have n8_ := Aside0.mk ((by rw [hg]; exact Nat.ne_of_gt (blk_lt (g := gb223) (o := .cells #[.bool x224000_1, .bool x224001_1, .int .i64 x224002_1, .int .i64 x224003_1] 137 (0, 0)) (by (with_reducible repeat (first | refine blk_drewN ?_ _ | refine blk_drew ?_ | refine blk_alloc ?_ _)); exact BK223.out)) : gb226 ≠ gb223)); clear HO_5; clear HO_6; clear BK223; clear HB; have HO_5 := n0_; have HO_6 := n1_; have BK223 := n2_; have HB := n3_; have BK226 := n4_; have GW226 := n5_; have GE226 := n6_; have NB223_226 := n7_; have NB226_223 := n8_; clear n0_ n1_ n2_ n3_ n4_ n5_ n6_ n7_ n8_; clear hb hbox hg; have hnb9 := NB226_223.out; have hnc9 := NB223_226.out; have hcz10_0 : w8.cell? ⟨gb226, 0, none⟩ = some (.int .u8 0) := (blk_cell BK226.out 0).trans rfl; have hcz10_1 : w8.cell? ⟨gb226, 1, none⟩ = some (.int .u8 0) := (blk_cell BK226.out 1).trans rfl; have hfz10_0 := blk_frozen BK226.out 0; have hfz10_1 := blk_frozen BK226.out 1) | ((with_reducible refine gate_callee (f := 105) rfl ?_); refine goesL_ (some 22) rfl rfl Tryd.func105 (by kernel_rfl) rfl #[.agg #[.int .u8 ((rd_T55 l0 x16_1).f0), .int .u8 ((rd_T55 l0 x16_1).f1)]] rfl (by (try simp only [List.map_toArray, List.map_cons, List.map_nil]); first | done | rfl | (simp only [List.length_drop, List.length_take]; rfl)) ?_; (with_reducible refine (term_takes.calls k1 ((rd_T55 l0 x16_1).f0) ((rd_T55 l0 x16_1).f1) t227 _ A6.out).mono ?_); rintro e w11 ⟨rfl, hb⟩; refine ⟨_, rfl, ?_⟩; have n0_ := Aside0.mk (Kd.R_below (by (with_reducible repeat (first | apply Kd.R_alloc | apply Kd.R_drewN | apply Kd.R_drew)); exact (Kd.R_mono (Kd.R_far (p := ⟨gb226, 1, none⟩) (Kd.R_far (p := ⟨gb226, 0, none⟩) (Kd.R_types HO_5.out BK226.out (by decide)) (fun _ hk => hk.2) (.int .u8 ((rd_T55 l0 x16_1).f0))) (fun _ hk => hk.2) (.int .u8 ((rd_T55 l0 x16_1).f1))) (fun _ h_ => h_.1))) hb); have n1_ := Aside0.mk (Kd.R_below (by (with_reducible repeat (first | apply Kd.R_alloc | apply Kd.R_drewN | apply Kd.R_drew)); exact (Kd.R_mono (Kd.R_far (p := ⟨gb226, 1, none⟩) (Kd.R_far (p := ⟨gb226, 0, none⟩) (Kd.R_types HO_6.out BK226.out (by decide)) (fun _ hk => hk.2) (.int .u8 ((rd_T55 l0 x16_1).f0))) (fun _ hk => hk.2) (.int .u8 ((rd_T55 l0 x16_1).f1))) (fun _ h_ => h_.1))) hb); have n2_ := Aside0.mk (blk_below (g := gb223) (o := .cells #[.bool x224000_1, .bool x224001_1, .int .i64 x224002_1, .int .i64 x224003_1] 137 (0, 0)) (by (with_reducible repeat (first | refine blk_drewN ?_ _ | refine blk_drew ?_ | refine blk_alloc ?_ _)); refine blk_far ?_ NB223_226.out _; (with_reducible repeat (first | refine blk_drewN ?_ _ | refine blk_drew ?_ | refine blk_alloc ?_ _)); refine blk_far ?_ NB223_226.out _; (with_reducible repeat (first | refine blk_drewN ?_ _ | refine blk_drew ?_ | refine blk_alloc ?_ _)); exact BK223.out) hb); have n3_ := Aside0.mk (blk_below (g := gb226) (o := .cells #[.int .u8 ((rd_T55 l0 x16_1).f0), .int .u8 ((rd_T55 l0 x16_1).f1)] 55 (0, 0)) (by (with_reducible repeat (first | refine blk_drewN ?_ _ | refine blk_drew ?_ | refine blk_alloc ?_ _)); refine blk_put (cs := #[.int .u8 ((rd_T55 l0 x16_1).f0), .int .u8 0]) ?_ 1 _ rfl; (with_reducible repeat (first | refine blk_drewN ?_ _ | refine blk_drew ?_ | refine blk_alloc ?_ _)); refine blk_put (cs := #[.int .u8 0, .int .u8 0]) ?_ 0 _ rfl; (with_reducible repeat (first | refine blk_drewN ?_ _ | refine blk_drew ?_ | refine blk_alloc ?_ _)); exact BK226.out) hb); have n4_ := Aside0.mk (below_step (by repeat (first | (with_reducible first | exact HB.out | apply below_alloc | apply pw_below_drewN | apply below_drew1 | refine below_set ?_ GE223.out | refine below_set ?_ GE226.out) | exact HB.out)) hb); clear HO_5; clear HO_6; clear BK223; clear BK226; clear HB; have HO_5 := n0_; have HO_6 := n1_; have BK223 := n2_; have BK226 := n3_; have HB := n4_; clear n0_ n1_ n2_ n3_ n4_; (try clear hb); (try clear hb2); (try clear hk); (try clear hi)))
            (try simp only [Act.put, List.setIfInBounds_toArray, List.set_cons_zero, List.set_cons_succ])
            go_cut [30] (fun v30 wc => ∃ (kq : Nat) (x30_6 : Bool), v30 = .bool x30_6 ∧ Aside0 (term_read.j1 kq x5_1 x6_1 x16_1 t227 l0 (l0.length : Int) x16_1 x30_6 ((rd_T55 l0 x16_1).f0) ((rd_T55 l0 x16_1).f1) = some (r1, r2, r3, r4, r5, r6)) ∧ Aside0 (kq ≤ k1) ∧ Aside0 (Kd.R k137 137 wc w.heap.size (fun k_ => some k_ ≠ (u6 : Value).ownBlock ∧ k_ ≠ gb223) u5 x5_1) ∧ Aside0 (Kd.R k137 137 wc w.heap.size (fun k_ => some k_ ≠ (u5 : Value).ownBlock ∧ k_ ≠ gb223) u6 x6_1) ∧ Aside0 (wc.heap[gb223]? = some (.cells #[.bool x224000_1, .bool x224001_1, .int .i64 x224002_1, .int .i64 x224003_1] 137 (0, 0))) ∧ Aside0 (wc.heap[gb226]? = some (.cells #[.int .u8 ((rd_T55 l0 x16_1).f0), .int .u8 ((rd_T55 l0 x16_1).f1)] 55 (0, 0))) ∧ Aside0 (Below w.heap.size w wc))
            case first =>
              have H := HC7.out
              clear HC7
              by_cases c12 : t227 < 0
              · rw [if_pos c12] at H
                have c12b0 : decide (t227 < 0) = true := decide_eq_true c12
                clear c12
                (first | rw [c12b0] | (simp only [i64_w, i32_w]; rw [c12b0]) | skip)
                have H' := Aside0.mk H
                clear H
                go_wp2
                go_meet
                case rel => exact ⟨_, (true), (by first | rfl | (simp; done) | (simp [*]; done)), H', ⟨by have := HK1.out; first | omega | exact Nat.le_refl _⟩, ⟨by (with_reducible repeat (first | apply Kd.R_alloc | apply Kd.R_drewN | apply Kd.R_drew)); exact HO_5.out⟩, ⟨by (with_reducible repeat (first | apply Kd.R_alloc | apply Kd.R_drewN | apply Kd.R_drew)); exact HO_6.out⟩, ⟨by (with_reducible repeat (first | refine blk_drewN ?_ _ | refine blk_drew ?_ | refine blk_alloc ?_ _)); exact BK223.out⟩, ⟨by (with_reducible repeat (first | refine blk_drewN ?_ _ | refine blk_drew ?_ | refine blk_alloc ?_ _)); exact BK226.out⟩, ⟨by repeat (first | (with_reducible first | exact HB.out | apply below_alloc | apply pw_below_drewN | apply below_drew1 | refine below_set ?_ GE223.out | refine below_set ?_ GE226.out) | exact HB.out)⟩⟩
              · rw [if_neg c12] at H
                have c12b0 : decide (t227 < 0) = false := decide_eq_false c12
                clear c12
                (first | rw [c12b0] | (simp only [i64_w, i32_w]; rw [c12b0]) | skip)
                have H' := Aside0.mk H
                clear H
                obtain ⟨Ao13, co13, eo13⟩ := Kd.R_slice HO_6.out
                subst eo13
                go_wp2
                go_meet
                case rel => exact ⟨_, (decide (t227 > (x6_1.length : Int))), (by first | rfl | (simp; done) | (simp [*]; done)), H', ⟨by have := HK1.out; first | omega | exact Nat.le_refl _⟩, ⟨by (with_reducible repeat (first | apply Kd.R_alloc | apply Kd.R_drewN | apply Kd.R_drew)); exact HO_5.out⟩, ⟨by (with_reducible repeat (first | apply Kd.R_alloc | apply Kd.R_drewN | apply Kd.R_drew)); exact HO_6.out⟩, ⟨by (with_reducible repeat (first | refine blk_drewN ?_ _ | refine blk_drew ?_ | refine blk_alloc ?_ _)); exact BK223.out⟩, ⟨by (with_reducible repeat (first | refine blk_drewN ?_ _ | refine blk_drew ?_ | refine blk_alloc ?_ _)); exact BK226.out⟩, ⟨by repeat (first | (with_reducible first | exact HB.out | apply below_alloc | apply pw_below_drewN | apply below_drew1 | refine below_set ?_ GE223.out | refine below_set ?_ GE226.out) | exact HB.out)⟩⟩
            case rest =>
              clear HC7
              try clear c1
              try clear p2
              try clear q2
              try clear hx2
              try clear c3
              try clear c3b0
              try clear c4
              try clear c4b0
              try clear c5
              try clear c5b0
              try clear c9
              try clear c10
              try clear c12
              try clear c12b0
              try clear hcz10_0
              try clear hcz10_1
              try clear hfz10_0
              try clear hfz10_1
              try clear hx225_0
              try clear hx225_1
              try clear p2
              try clear p225
              try clear q225
              obtain ⟨kq, x30_6, rfl, HA, HJ6, HO_5, HO_6, BK223, BK226, HB⟩ := hcut
              cases kq with
              | zero => exact absurd HA.out (by simp [term_read.j1])
              | succ kj6 =>
                have H := HA.out
                clear HA
                simp only [term_read.j1] at H
                by_cases c14 : x30_6 = true
                · subst c14
                  have H1 : (some (([] : List (S137)), false, false, 0, 0, false)) = some (r1, r2, r3, r4, r5, r6) := by rw [if_pos rfl] at H; exact H
                  clear H
                  have H := H1
                  clear H1
                  simp only [Option.some.injEq, Prod.mk.injEq] at H
                  obtain ⟨rfl, rfl, rfl, rfl, rfl, rfl⟩ := H
                  have hnb15 := NB223_226.out
                  have hnc15 := NB226_223.out
                  have hcz16_0 : wc.cell? ⟨gb223, 0, none⟩ = some (.bool x224000_1) := (blk_cell BK223.out 0).trans rfl
                  have hcz16_1 : wc.cell? ⟨gb223, 1, none⟩ = some (.bool x224001_1) := (blk_cell BK223.out 1).trans rfl
                  have hcz16_2 : wc.cell? ⟨gb223, 2, none⟩ = some (.int .i64 x224002_1) := (blk_cell BK223.out 2).trans rfl
                  have hcz16_3 : wc.cell? ⟨gb223, 3, none⟩ = some (.int .i64 x224003_1) := (blk_cell BK223.out 3).trans rfl
                  have hfz16_0 := blk_frozen BK223.out 0
                  have hfz16_1 := blk_frozen BK223.out 1
                  have hfz16_2 := blk_frozen BK223.out 2
                  have hfz16_3 := blk_frozen BK223.out 3
                  go_wp2
                  refine bodyPost_ret (results_list (rs := [.tmp 2, .cell 3 137, .tmp 4]) rfl (by simp) (.tmp (.cell gb223 137 #[.bool false, .bool false, .int .i64 0, .int .i64 0] (0, 0) _ rfl (by (with_reducible repeat (first | refine blk_drewN ?_ _ | refine blk_drew ?_ | refine blk_alloc ?_ _)); refine blk_put (cs := #[.bool false, .bool false, .int .i64 0, .int .i64 x224003_1]) ?_ 3 _ rfl; (with_reducible repeat (first | refine blk_drewN ?_ _ | refine blk_drew ?_ | refine blk_alloc ?_ _)); refine blk_put (cs := #[.bool false, .bool false, .int .i64 x224002_1, .int .i64 x224003_1]) ?_ 2 _ rfl; (with_reducible repeat (first | refine blk_drewN ?_ _ | refine blk_drew ?_ | refine blk_alloc ?_ _)); refine blk_put (cs := #[.bool false, .bool x224001_1, .int .i64 x224002_1, .int .i64 x224003_1]) ?_ 1 _ rfl; (with_reducible repeat (first | refine blk_drewN ?_ _ | refine blk_drew ?_ | refine blk_alloc ?_ _)); refine blk_put (cs := #[.bool x224000_1, .bool x224001_1, .int .i64 x224002_1, .int .i64 x224003_1]) ?_ 0 _ rfl; (with_reducible repeat (first | refine blk_drewN ?_ _ | refine blk_drew ?_ | refine blk_alloc ?_ _)); exact BK223.out) Tryd.underlying137 rfl (by kernel_rfl) (.tmp .nil)))) rfl ?_
                  exact ⟨_, by first | rfl | (simp [errW_none, errW_some] <;> rfl) | (simp [*, errW_none, errW_some] <;> rfl), by first | exact Kd.R_nil _ _ _ _ _ | exact Kd.N_nil _ _ _ _ _ | exact Kd.V_nil _ _ _ _ _ | exact Kd.Q_nil _ _ _ _ _ | exact Kd.S_nil _ _ _ _ _, by repeat (first | (with_reducible first | exact HB.out | apply below_alloc | apply pw_below_drewN | apply below_drew1 | refine below_set ?_ GE223.out | refine below_set ?_ GE226.out) | exact HB.out)⟩
                · replace c14 := Bool.eq_false_iff.mpr c14
                  subst c14
                  have H1 : (if 0 ≤ (wrap64 ((x6_1.length : Int) - t227)) then (if (wrap64 ((x6_1.length : Int) - t227)) ≤ (x6_1.length : Int) then ((some (x6_1.drop ((wrap64 ((x6_1.length : Int) - t227)) : Int).toNat : List (S137))).bind fun y228 => ((term_fits.f ((rd_T55 l0 x16_1).f0) y228).bind fun t232 => (if t232 = true then ((term_plain.f ((rd_T55 l0 x16_1).f0)).bind fun t233 => (term_read.l1 kj6 x5_1 x6_1 t227 l0 (l0.length : Int) x16_1 y228 (y228.length : Int) 0 (decide (((rd_T55 l0 x16_1).f0) ≥ 19)) t233 1 x16_1)) else (some (([] : List (S137)), false, false, 0, 0, false))))) else (none)) else (none)) = some (r1, r2, r3, r4, r5, r6) := by rw [if_neg (show ¬ (false = true) by decide)] at H; exact H
                  clear H
                  have H := H1
                  clear H1
                  obtain ⟨ji17, hji17⟩ : ∃ j_ : Int, (wrap64 ((x6_1.length : Int) - t227)) = j_ := ⟨_, rfl⟩
                  replace H : (if 0 ≤ (ji17) then (if (ji17) ≤ (x6_1.length : Int) then ((some (x6_1.drop ((ji17) : Int).toNat : List (S137))).bind fun y228 => ((term_fits.f ((rd_T55 l0 x16_1).f0) y228).bind fun t232 => (if t232 = true then ((term_plain.f ((rd_T55 l0 x16_1).f0)).bind fun t233 => (term_read.l1 kj6 x5_1 x6_1 t227 l0 (l0.length : Int) x16_1 y228 (y228.length : Int) 0 (decide (((rd_T55 l0 x16_1).f0) ≥ 19)) t233 1 x16_1)) else (some (([] : List (S137)), false, false, 0, 0, false))))) else (none)) else (none)) = some (r1, r2, r3, r4, r5, r6) := by first | (rw [hji17] at H; exact H) | (simp only [hji17] at H ⊢; exact H)
                  have hji17w : (IntKind.i64.wrap ((x6_1.length : Int) - t227)) = ji17 := (i64_w _).trans hji17
                  by_cases c18 : 0 ≤ (ji17)
                  rotate_left
                  · rw [if_neg c18] at H
                    exact absurd H (by simp)
                  · rw [if_pos c18] at H
                    have c18b0 := eq_true c18
                    have c18b1 : decide (0 ≤ (ji17)) = true := decide_eq_true c18
                    clear c18
                    by_cases c19 : (ji17) ≤ (x6_1.length : Int)
                    rotate_left
                    · rw [if_neg c19] at H
                      exact absurd H (by simp)
                    · rw [if_pos c19] at H
                      have c19b0 := eq_true c19
                      have c19b1 : decide ((ji17) ≤ (x6_1.length : Int)) = true := decide_eq_true c19
                      clear c19
                      obtain ⟨y228, hy228⟩ : ∃ y_ : List (S137), y_ = (x6_1.drop ((ji17) : Int).toNat) := ⟨_, rfl⟩
                      replace H : ((term_fits.f ((rd_T55 l0 x16_1).f0) y228).bind fun t232 => (if t232 = true then ((term_plain.f ((rd_T55 l0 x16_1).f0)).bind fun t233 => (term_read.l1 kj6 x5_1 x6_1 t227 l0 (l0.length : Int) x16_1 y228 (y228.length : Int) 0 (decide (((rd_T55 l0 x16_1).f0) ≥ 19)) t233 1 x16_1)) else (some (([] : List (S137)), false, false, 0, 0, false)))) = some (r1, r2, r3, r4, r5, r6) := by first | (rw [hy228]; with_reducible exact H) | (have H2_ := (Option.bind_some _ _).symm.trans H; rw [hy228]; with_reducible exact H2_) | (have H2_ := (Option.bind_some _ _).symm.trans H; with_reducible exact H2_) | with_reducible exact H | (rw [hy228]; exact H) | exact H
                      have Ny228 := Aside0.mk hy228
                      clear hy228
                      replace H := Option.bind_eq_some_iff.mp H
                      obtain ⟨t232, A200, H⟩ := H
                      replace H : (if t232 = true then ((term_plain.f ((rd_T55 l0 x16_1).f0)).bind fun t233 => (term_read.l1 kj6 x5_1 x6_1 t227 l0 (l0.length : Int) x16_1 y228 (y228.length : Int) 0 (decide (((rd_T55 l0 x16_1).f0) ≥ 19)) t233 1 x16_1)) else (some (([] : List (S137)), false, false, 0, 0, false))) = some (r1, r2, r3, r4, r5, r6) := H
                      have A20 := Aside0.mk A200
                      clear A200
                      by_cases c21 : t232 = true
                      rotate_left
                      · replace c21 := Bool.eq_false_iff.mpr c21
                        subst c21
                        have H1 : (some (([] : List (S137)), false, false, 0, 0, false)) = some (r1, r2, r3, r4, r5, r6) := by rw [if_neg (show ¬ (false = true) by decide)] at H; exact H
                        clear H
                        have H := H1
                        clear H1
                        simp only [Option.some.injEq, Prod.mk.injEq] at H
                        obtain ⟨rfl, rfl, rfl, rfl, rfl, rfl⟩ := H
                        obtain ⟨Ao87, co87, eo87⟩ := Kd.R_slice HO_6.out
                        subst eo87
                        have q88 : ((ji17) : Int) ≤ ((x6_1.length : Int) : Int) := of_decide_eq_true (by first | (with_reducible assumption) | assumption)
                        obtain ⟨i088, hi088, _, hsz88, _⟩ := info_parts info137
                        have hroom88 : x6_1.length ≤ co87 := (Kd.R_reads' HO_6.out).2.1
                        have hC88 : Kd.C k137 _ Ao87 x6_1.length x6_1 := (Kd.R_reads' HO_6.out).2.2
                        have q088 : (0 : Int) ≤ ((ji17) : Int) := of_decide_eq_true (by first | (with_reducible assumption) | assumption)
                        have hcut88 := cut_from (P := Tryd.prog) 135 137 .i64 Tryd.underlying135 hi088 4 hsz88 Ao87 x6_1.length co87 (ji17) q088 q88
                        have hr88 := Kd.C_drop (m := ((ji17) : Int).toNat) (c := co87) hC88 (by omega) hroom88
                        obtain ⟨A88, hA88⟩ : ∃ A1, A1 = (if co87 = ((ji17) : Int).toNat then Ao87 else (Ao87 : Option Addr).map (·.add (((ji17) : Int).toNat * 4))) := ⟨_, rfl⟩
                        obtain ⟨c88, hc88⟩ : ∃ c1, c1 = co87 - ((ji17) : Int).toNat := ⟨_, rfl⟩
                        have hy88 : y228.length = x6_1.length - ((ji17) : Int).toNat := (by rw [Ny228.out, List.length_drop] <;> omega)
                        rw [show (x6_1).drop ((ji17) : Int).toNat = y228 from Ny228.out.symm] at hr88
                        replace hr88 : Kd.C k137 _ A88 y228.length y228 := (by rw [hA88]; exact hr88)
                        rw [← hy88, ← hA88, ← hc88] at hcut88
                        have HR231 := Aside0.mk hr88
                        have HC231 := Aside0.mk (show y228.length ≤ c88 from by rw [hy88, hc88]; exact Nat.sub_le_sub_right hroom88 _)
                        clear hr88 hC88 hroom88 hi088 hsz88 hc88
                        have KY88 := Aside0.mk hy88
                        have KA88 := Aside0.mk hA88
                        clear hy88 hA88
                        have KL88 := Aside0.mk (show ((ji17) : Int).toNat ≤ x6_1.length from by omega)
                        replace q88 := eq_true q88
                        have hnb89 := NB226_223.out
                        have hnc89 := NB223_226.out
                        have hcz90_0 : wc.cell? ⟨gb226, 0, none⟩ = some (.int .u8 ((rd_T55 l0 x16_1).f0)) := (blk_cell BK226.out 0).trans rfl
                        have hcz90_1 : wc.cell? ⟨gb226, 1, none⟩ = some (.int .u8 ((rd_T55 l0 x16_1).f1)) := (blk_cell BK226.out 1).trans rfl
                        have hfz90_0 := blk_frozen BK226.out 0
                        have hfz90_1 := blk_frozen BK226.out 1
                        go_wp2_with (first | ((with_reducible refine gate_callee (f := 106) rfl ?_); refine goesL_ (some 41) rfl rfl Tryd.func106 (by kernel_rfl) rfl #[.int .u8 ((rd_T55 l0 x16_1).f0), .slice A88 y228.length c88] rfl (by (try simp only [List.map_toArray, List.map_cons, List.map_nil]); first | done | rfl | (simp only [List.length_drop, List.length_take]; rfl)) ?_; (with_reducible refine (term_fits.calls ((rd_T55 l0 x16_1).f0) _ _ y228 false _ ?side1 ?side2 A20.out).mono ?_); (case side1 => repeat (first | exact (by repeat (first | (with_reducible exact HR231.out) | (with_reducible refine Kd.C_alloc ?_ _) | (with_reducible refine Kd.C_drewN ?_ _) | (with_reducible refine Kd.C_drew ?_) | exact HR231.out)) | (with_reducible refine Kd.C_alloc ?_ _) | (with_reducible refine Kd.C_drewN ?_ _) | (with_reducible refine Kd.C_drew ?_))); (case side2 => exact HC231.out); rintro e w91 ⟨rfl, hb⟩; refine ⟨_, rfl, ?_⟩; have n0_ := Aside0.mk (Kd.R_below (by (with_reducible repeat (first | apply Kd.R_alloc | apply Kd.R_drewN | apply Kd.R_drew)); exact HO_5.out) hb); have n1_ := Aside0.mk (Kd.R_below (by (with_reducible repeat (first | apply Kd.R_alloc | apply Kd.R_drewN | apply Kd.R_drew)); exact HO_6.out) hb); have n2_ := Aside0.mk (blk_below (g := gb223) (o := .cells #[.bool x224000_1, .bool x224001_1, .int .i64 x224002_1, .int .i64 x224003_1] 137 (0, 0)) (by (with_reducible repeat (first | refine blk_drewN ?_ _ | refine blk_drew ?_ | refine blk_alloc ?_ _)); exact BK223.out) hb); have n3_ := Aside0.mk (blk_below (g := gb226) (o := .cells #[.int .u8 ((rd_T55 l0 x16_1).f0), .int .u8 ((rd_T55 l0 x16_1).f1)] 55 (0, 0)) (by (with_reducible repeat (first | refine blk_drewN ?_ _ | refine blk_drew ?_ | refine blk_alloc ?_ _)); exact BK226.out) hb); have n4_ := Aside0.mk (Kd.C_below (by repeat (first | (with_reducible exact HR231.out) | (with_reducible refine Kd.C_alloc ?_ _) | (with_reducible refine Kd.C_drewN ?_ _) | (with_reducible refine Kd.C_drew ?_) | exact HR231.out)) hb); have n5_ := Aside0.mk (below_step (by repeat (first | (with_reducible first | exact HB.out | apply below_alloc | apply pw_below_drewN | apply below_drew1 | refine below_set ?_ GE223.out | refine below_set ?_ GE226.out) | exact HB.out)) hb); clear HO_5; clear HO_6; clear BK223; clear BK226; clear HR231; clear HB; have HO_5 := n0_; have HO_6 := n1_; have BK223 := n2_; have BK226 := n3_; have HR231 := n4_; have HB := n5_; clear n0_ n1_ n2_ n3_ n4_ n5_; (try clear hb); (try clear hb2); (try clear hk); (try clear hi); have hcz92_0 : w91.cell? ⟨gb223, 0, none⟩ = some (.bool x224000_1) := (blk_cell BK223.out 0).trans rfl; have hcz92_1 : w91.cell? ⟨gb223, 1, none⟩ = some (.bool x224001_1) := (blk_cell BK223.out 1).trans rfl; have hcz92_2 : w91.cell? ⟨gb223, 2, none⟩ = some (.int .i64 x224002_1) := (blk_cell BK223.out 2).trans rfl; have hcz92_3 : w91.cell? ⟨gb223, 3, none⟩ = some (.int .i64 x224003_1) := (blk_cell BK223.out 3).trans rfl; have hfz92_0 := blk_frozen BK223.out 0; have hfz92_1 := blk_frozen BK223.out 1; have hfz92_2 := blk_frozen BK223.out 2; have hfz92_3 := blk_frozen BK223.out 3))
                        refine bodyPost_ret (results_list (rs := [.tmp 2, .cell 3 137, .tmp 4]) rfl (by simp) (.tmp (.cell gb223 137 #[.bool false, .bool false, .int .i64 0, .int .i64 0] (0, 0) _ rfl (by (with_reducible repeat (first | refine blk_drewN ?_ _ | refine blk_drew ?_ | refine blk_alloc ?_ _)); refine blk_put (cs := #[.bool false, .bool false, .int .i64 0, .int .i64 x224003_1]) ?_ 3 _ rfl; (with_reducible repeat (first | refine blk_drewN ?_ _ | refine blk_drew ?_ | refine blk_alloc ?_ _)); refine blk_put (cs := #[.bool false, .bool false, .int .i64 x224002_1, .int .i64 x224003_1]) ?_ 2 _ rfl; (with_reducible repeat (first | refine blk_drewN ?_ _ | refine blk_drew ?_ | refine blk_alloc ?_ _)); refine blk_put (cs := #[.bool false, .bool x224001_1, .int .i64 x224002_1, .int .i64 x224003_1]) ?_ 1 _ rfl; (with_reducible repeat (first | refine blk_drewN ?_ _ | refine blk_drew ?_ | refine blk_alloc ?_ _)); refine blk_put (cs := #[.bool x224000_1, .bool x224001_1, .int .i64 x224002_1, .int .i64 x224003_1]) ?_ 0 _ rfl; (with_reducible repeat (first | refine blk_drewN ?_ _ | refine blk_drew ?_ | refine blk_alloc ?_ _)); exact BK223.out) Tryd.underlying137 rfl (by kernel_rfl) (.tmp .nil)))) rfl ?_
                        exact ⟨_, by first | rfl | (simp [errW_none, errW_some] <;> rfl) | (simp only [← hji17]; first | rfl | (simp [errW_none, errW_some] <;> rfl)) | (simp [*, errW_none, errW_some] <;> rfl), by first | exact Kd.R_nil _ _ _ _ _ | exact Kd.N_nil _ _ _ _ _ | exact Kd.V_nil _ _ _ _ _ | exact Kd.Q_nil _ _ _ _ _ | exact Kd.S_nil _ _ _ _ _, by repeat (first | (with_reducible first | exact HB.out | apply below_alloc | apply pw_below_drewN | apply below_drew1 | refine below_set ?_ GE223.out | refine below_set ?_ GE226.out) | exact HB.out)⟩
                      · subst c21
                        have H1 : ((term_plain.f ((rd_T55 l0 x16_1).f0)).bind fun t233 => (term_read.l1 kj6 x5_1 x6_1 t227 l0 (l0.length : Int) x16_1 y228 (y228.length : Int) 0 (decide (((rd_T55 l0 x16_1).f0) ≥ 19)) t233 1 x16_1)) = some (r1, r2, r3, r4, r5, r6) := by rw [if_pos rfl] at H; exact H
                        clear H
                        have H := H1
                        clear H1
                        replace H := Option.bind_eq_some_iff.mp H
                        obtain ⟨t233, A220, H⟩ := H
                        replace H : (term_read.l1 kj6 x5_1 x6_1 t227 l0 (l0.length : Int) x16_1 y228 (y228.length : Int) 0 (decide (((rd_T55 l0 x16_1).f0) ≥ 19)) t233 1 x16_1) = some (r1, r2, r3, r4, r5, r6) := H
                        have A22 := Aside0.mk A220
                        clear A220
                        have H' := Aside0.mk H
                        clear H
                        obtain ⟨Ao23, co23, eo23⟩ := Kd.R_slice HO_6.out
                        subst eo23
                        have q24 : ((ji17) : Int) ≤ ((x6_1.length : Int) : Int) := of_decide_eq_true (by first | (with_reducible assumption) | assumption)
                        obtain ⟨i024, hi024, _, hsz24, _⟩ := info_parts info137
                        have hroom24 : x6_1.length ≤ co23 := (Kd.R_reads' HO_6.out).2.1
                        have hC24 : Kd.C k137 _ Ao23 x6_1.length x6_1 := (Kd.R_reads' HO_6.out).2.2
                        have q024 : (0 : Int) ≤ ((ji17) : Int) := of_decide_eq_true (by first | (with_reducible assumption) | assumption)
                        have hcut24 := cut_from (P := Tryd.prog) 135 137 .i64 Tryd.underlying135 hi024 4 hsz24 Ao23 x6_1.length co23 (ji17) q024 q24
                        have hr24 := Kd.C_drop (m := ((ji17) : Int).toNat) (c := co23) hC24 (by omega) hroom24
                        obtain ⟨A24, hA24⟩ : ∃ A1, A1 = (if co23 = ((ji17) : Int).toNat then Ao23 else (Ao23 : Option Addr).map (·.add (((ji17) : Int).toNat * 4))) := ⟨_, rfl⟩
                        obtain ⟨c24, hc24⟩ : ∃ c1, c1 = co23 - ((ji17) : Int).toNat := ⟨_, rfl⟩
                        have hy24 : y228.length = x6_1.length - ((ji17) : Int).toNat := (by rw [Ny228.out, List.length_drop] <;> omega)
                        rw [show (x6_1).drop ((ji17) : Int).toNat = y228 from Ny228.out.symm] at hr24
                        replace hr24 : Kd.C k137 _ A24 y228.length y228 := (by rw [hA24]; exact hr24)
                        rw [← hy24, ← hA24, ← hc24] at hcut24
                        have HR231 := Aside0.mk hr24
                        have HC231 := Aside0.mk (show y228.length ≤ c24 from by rw [hy24, hc24]; exact Nat.sub_le_sub_right hroom24 _)
                        clear hr24 hC24 hroom24 hi024 hsz24 hc24
                        have KY24 := Aside0.mk hy24
                        have KA24 := Aside0.mk hA24
                        clear hy24 hA24
                        have KL24 := Aside0.mk (show ((ji17) : Int).toNat ≤ x6_1.length from by omega)
                        replace q24 := eq_true q24
                        have hnb25 := NB226_223.out
                        have hnc25 := NB223_226.out
                        have hcz26_0 : wc.cell? ⟨gb226, 0, none⟩ = some (.int .u8 ((rd_T55 l0 x16_1).f0)) := (blk_cell BK226.out 0).trans rfl
                        have hcz26_1 : wc.cell? ⟨gb226, 1, none⟩ = some (.int .u8 ((rd_T55 l0 x16_1).f1)) := (blk_cell BK226.out 1).trans rfl
                        have hfz26_0 := blk_frozen BK226.out 0
                        have hfz26_1 := blk_frozen BK226.out 1
                        try go_wp2_with (first | ((with_reducible refine gate_callee (f := 106) rfl ?_); refine goesL_ (some 41) rfl rfl Tryd.func106 (by kernel_rfl) rfl #[.int .u8 ((rd_T55 l0 x16_1).f0), .slice A24 y228.length c24] rfl (by (try simp only [List.map_toArray, List.map_cons, List.map_nil]); first | done | rfl | (simp only [List.length_drop, List.length_take]; rfl)) ?_; (with_reducible refine (term_fits.calls ((rd_T55 l0 x16_1).f0) _ _ y228 true _ ?side1 ?side2 A20.out).mono ?_); (case side1 => repeat (first | exact (by repeat (first | (with_reducible exact HR231.out) | (with_reducible refine Kd.C_alloc ?_ _) | (with_reducible refine Kd.C_drewN ?_ _) | (with_reducible refine Kd.C_drew ?_) | exact HR231.out)) | (with_reducible refine Kd.C_alloc ?_ _) | (with_reducible refine Kd.C_drewN ?_ _) | (with_reducible refine Kd.C_drew ?_))); (case side2 => exact HC231.out); rintro e w27 ⟨rfl, hb⟩; refine ⟨_, rfl, ?_⟩; have n0_ := Aside0.mk (Kd.R_below (by (with_reducible repeat (first | apply Kd.R_alloc | apply Kd.R_drewN | apply Kd.R_drew)); exact HO_5.out) hb); have n1_ := Aside0.mk (Kd.R_below (by (with_reducible repeat (first | apply Kd.R_alloc | apply Kd.R_drewN | apply Kd.R_drew)); exact HO_6.out) hb); have n2_ := Aside0.mk (blk_below (g := gb223) (o := .cells #[.bool x224000_1, .bool x224001_1, .int .i64 x224002_1, .int .i64 x224003_1] 137 (0, 0)) (by (with_reducible repeat (first | refine blk_drewN ?_ _ | refine blk_drew ?_ | refine blk_alloc ?_ _)); exact BK223.out) hb); have n3_ := Aside0.mk (blk_below (g := gb226) (o := .cells #[.int .u8 ((rd_T55 l0 x16_1).f0), .int .u8 ((rd_T55 l0 x16_1).f1)] 55 (0, 0)) (by (with_reducible repeat (first | refine blk_drewN ?_ _ | refine blk_drew ?_ | refine blk_alloc ?_ _)); exact BK226.out) hb); have n4_ := Aside0.mk (Kd.C_below (by repeat (first | (with_reducible exact HR231.out) | (with_reducible refine Kd.C_alloc ?_ _) | (with_reducible refine Kd.C_drewN ?_ _) | (with_reducible refine Kd.C_drew ?_) | exact HR231.out)) hb); have n5_ := Aside0.mk (below_step (by repeat (first | (with_reducible first | exact HB.out | apply below_alloc | apply pw_below_drewN | apply below_drew1 | refine below_set ?_ GE223.out | refine below_set ?_ GE226.out) | exact HB.out)) hb); clear HO_5; clear HO_6; clear BK223; clear BK226; clear HR231; clear HB; have HO_5 := n0_; have HO_6 := n1_; have BK223 := n2_; have BK226 := n3_; have HR231 := n4_; have HB := n5_; clear n0_ n1_ n2_ n3_ n4_ n5_; (try clear hb); (try clear hb2); (try clear hk); (try clear hi)))
                        have n0_ := Aside0.mk (Kd.R_drew HO_5.out)
                        have n1_ := Aside0.mk (Kd.R_drew HO_6.out)
                        have n2_ := Aside0.mk (blk_drew BK223.out)
                        have n3_ := Aside0.mk (blk_drew BK226.out)
                        have n4_ := Aside0.mk (Kd.C_drew HR231.out)
                        have n5_ := Aside0.mk (below_drew1 HB.out)
                        clear HO_5
                        clear HO_6
                        clear BK223
                        clear BK226
                        clear HR231
                        clear HB
                        have HO_5 := n0_
                        have HO_6 := n1_
                        have BK223 := n2_
                        have BK226 := n3_
                        have HR231 := n4_
                        have HB := n5_
                        clear n0_ n1_ n2_ n3_ n4_ n5_
                        refine start_ (n := 10) (S := fun w' => w'.cell? ⟨gb226, 0, none⟩ = some (.int .u8 ((rd_T55 l0 x16_1).f0)) ∧ w'.cell? ⟨gb226, 1, none⟩ = some (.int .u8 ((rd_T55 l0 x16_1).f1))) (ds := []) #[false, false, false, false, false, false, false, false, false, false] (by kernel_rfl) rfl rfl ⟨(blk_cell BK226.out 0).trans rfl, (blk_cell BK226.out 1).trans rfl⟩ (fun hHeld => ?_); refine with_tabW term_read.tab11 term_read.bits11 (fun HT_ HW_ => ?_)
                        generalize w27.drew = w28 at HO_5 HO_6 BK223 BK226 HR231 HB hHeld ⊢
                        refine pure_ (i := 0) (N := some 44) (v := ?_) (a' := ?_) #[true, false, false, false, false, false, false, false, false, false] rfl rfl (any_of HT_.out (by kernel_rfl)) (fun _ _ _ h => h) (Or.inl ⟨by rfl, ?_⟩) ?_ ?_
                        rotate_left
                        · intro w'
                          go_simp
                          with_reducible rfl
                        rotate_left
                        · simp only [Act.put, List.setIfInBounds_toArray, List.set_cons_zero, List.set_cons_succ, i64_w, i32_w]
                          rfl
                        refine pure_ (i := 3) (N := some 47) (v := ?_) (a' := ?_) #[true, false, false, true, false, false, false, false, false, false] rfl rfl (any_of HT_.out (by kernel_rfl)) (fun _ _ _ h => h) (Or.inl ⟨by rfl, ?_⟩) ?_ ?_
                        rotate_left
                        · intro w'
                          go_simp
                          with_reducible rfl
                        rotate_left
                        · simp only [Act.put, List.setIfInBounds_toArray, List.set_cons_zero, List.set_cons_succ, i64_w, i32_w]
                          rfl
                        refine pure_ (i := 6) (N := some 50) (v := ?_) (a' := ?_) #[true, false, false, true, false, false, true, false, false, false] rfl rfl (any_of HT_.out (by kernel_rfl)) (fun _ _ _ h => h) (Or.inl ⟨by rfl, ?_⟩) ?_ ?_
                        rotate_left
                        · intro w'
                          go_simp
                          with_reducible rfl
                        rotate_left
                        · simp only [Act.put, List.setIfInBounds_toArray, List.set_cons_zero, List.set_cons_succ, i64_w, i32_w]
                          rfl
                        refine take_ (i := 1) (N := some 45) (v := ?_) (a' := ?_) #[true, true, false, true, false, false, true, false, false, false] rfl rfl (take_ofW HT_.out HW_.out (by kernel_rfl)) (fun _ _ _ h => h) (Or.inl ⟨by rfl, ?_⟩) hHeld ?_ ?_
                        rotate_left
                        · rintro w' ⟨s0, s1⟩
                          go_simp
                          with_reducible rfl
                        rotate_left
                        · simp only [Act.put, List.setIfInBounds_toArray, List.set_cons_zero, List.set_cons_succ, i64_w, i32_w]
                          rfl
                        refine pure_ (i := 2) (N := some 46) (v := ?_) (a' := ?_) #[true, true, true, true, false, false, true, false, false, false] rfl rfl (any_of HT_.out (by kernel_rfl)) (fun _ _ _ h => h) (Or.inl ⟨by rfl, ?_⟩) ?_ ?_
                        rotate_left
                        · intro w'
                          go_simp
                          with_reducible rfl
                        rotate_left
                        · simp only [Act.put, List.setIfInBounds_toArray, List.set_cons_zero, List.set_cons_succ, i64_w, i32_w]
                          rfl
                        refine take_ (i := 4) (N := some 48) (v := ?_) (a' := ?_) #[true, true, true, true, true, false, true, false, false, false] rfl rfl (take_ofW HT_.out HW_.out (by kernel_rfl)) (fun _ _ _ h => h) (Or.inl ⟨by rfl, ?_⟩) hHeld ?_ ?_
                        rotate_left
                        · rintro w' ⟨s0, s1⟩
                          go_simp
                          with_reducible rfl
                        rotate_left
                        · simp only [Act.put, List.setIfInBounds_toArray, List.set_cons_zero, List.set_cons_succ, i64_w, i32_w]
                          rfl
                        refine join_ (σ := Nat) 1 #[true, true, true, true, true, true, true, true, true, false] (fun s_ => [(49, .bool t233), (11, .pointer (some ⟨s_, 0, none⟩)), (51, .agg #[.bool (decide (((rd_T55 l0 x16_1).f0) ≥ 19)), .bool t233, .int .i64 1, .int .i64 x16_1])]) (fun s_ w' => (w'.cell? ⟨gb226, 0, none⟩ = some (.int .u8 ((rd_T55 l0 x16_1).f0)) ∧ w'.cell? ⟨gb226, 1, none⟩ = some (.int .u8 ((rd_T55 l0 x16_1).f1))) ∧ (Kd.R k137 137 w' w.heap.size (fun k_ => some k_ ≠ (.slice Ao23 x6_1.length co23 : Value).ownBlock ∧ k_ ≠ gb223 ∧ k_ ≠ s_) u5 x5_1) ∧ (Kd.R k137 137 w' w.heap.size (fun k_ => some k_ ≠ (u5 : Value).ownBlock ∧ k_ ≠ gb223 ∧ k_ ≠ s_) (.slice Ao23 x6_1.length co23) x6_1) ∧ (w'.heap[gb223]? = some (.cells #[.bool x224000_1, .bool x224001_1, .int .i64 x224002_1, .int .i64 x224003_1] 137 (0, 0))) ∧ (w'.heap[gb226]? = some (.cells #[.int .u8 ((rd_T55 l0 x16_1).f0), .int .u8 ((rd_T55 l0 x16_1).f1)] 55 (0, 0))) ∧ (w'.heap[s_]? = some (.cells #[.bool false, .bool false, .int .i64 0, .int .i64 0] 137 (0, 0))) ∧ (w.heap.size ≤ s_) ∧ (w.heap.size ≤ s_) ∧ (gb223 ≠ s_) ∧ (s_ ≠ gb223) ∧ (gb226 ≠ s_) ∧ (s_ ≠ gb226) ∧ (Below w.heap.size w w')) ?_ ?_
                        rotate_left
                        · intro hCont
                          refine two_ (i := 5) (j := 8) (Ni := some 49) (Nj := some 11) #[true, true, true, true, true, true, true, false, false, false] #[true, true, true, true, true, false, true, false, true, false] rfl rfl rfl rfl (two_of HT_.out (by kernel_rfl)) (by decide) (by decide) (fun K hK => ?_) (fun K hK => ?_)
                          · skip
                            refine goes_ Tryd.func107 (by kernel_rfl) rfl #[.int .u8 ((rd_T55 l0 x16_1).f0)] (by rfl) rfl rfl (by (try simp only [List.map_toArray, List.map_cons, List.map_nil]); first | done | rfl | (simp only [List.length_drop, List.length_take]; rfl)) ?_
                            with_reducible refine (term_plain.calls ((rd_T55 l0 x16_1).f0) t233 _ A22.out).mono ?_
                            rintro e w' ⟨rfl, ⟨nd, rfl⟩⟩
                            refine ⟨_, rfl, ?_⟩
                            refine hK.out _ _ ⟨(blk_cell BK226.out 0).trans rfl, (blk_cell BK226.out 1).trans rfl⟩ (fun hHeld => ?_)
                            clear hK K
                            refine norm_ (a' := ?_) ?_ ?_
                            rotate_left
                            · show Act.put _ (some 49) _ = _
                              simp only [Act.put, List.setIfInBounds_toArray, List.set_cons_zero, List.set_cons_succ, i64_w, i32_w]
                              rfl
                            refine pure_ (i := 7) (N := some 51) (v := ?_) (a' := ?_) #[true, true, true, true, true, true, true, true, false, false] rfl rfl (any_of HT_.out (by kernel_rfl)) (fun _ _ _ h => h) (Or.inl ⟨by rfl, ?_⟩) ?_ ?_
                            rotate_left
                            · intro w'
                              go_simp
                              with_reducible rfl
                            rotate_left
                            · simp only [Act.put, List.setIfInBounds_toArray, List.set_cons_zero, List.set_cons_succ, i64_w, i32_w]
                              rfl
                            refine one_ (i := 8) (N := some 11) #[true, true, true, true, true, true, true, true, true, false] rfl rfl (one_of HT_.out (by kernel_rfl)) (by decide) (fun K hK => ?_)
                            refine box_step ?hg (N := 11) ?hd (cs := #[.bool false, .bool false, .int .i64 0, .int .i64 0]) (t := 137) ?hr ?_; (case hd => rfl); (case hg => rfl); (case hr => first | (go_simp; done) | (go_simp; rfl))
                            intro gb234 hg w29 hbox hb
                            have n0_ := Aside0.mk (Kd.R_below (Kd.R_elderB (by (with_reducible repeat (first | apply Kd.R_alloc | apply Kd.R_drewN | apply Kd.R_drew)); exact HO_5.out) gb234 (Nat.le_of_eq hg.symm)) hb)
                            have n1_ := Aside0.mk (Kd.R_below (Kd.R_elderB (by (with_reducible repeat (first | apply Kd.R_alloc | apply Kd.R_drewN | apply Kd.R_drew)); exact HO_6.out) gb234 (Nat.le_of_eq hg.symm)) hb)
                            have n2_ := Aside0.mk (blk_below (g := gb223) (o := .cells #[.bool x224000_1, .bool x224001_1, .int .i64 x224002_1, .int .i64 x224003_1] 137 (0, 0)) (by (with_reducible repeat (first | refine blk_drewN ?_ _ | refine blk_drew ?_ | refine blk_alloc ?_ _)); exact BK223.out) hb)
                            have n3_ := Aside0.mk (blk_below (g := gb226) (o := .cells #[.int .u8 ((rd_T55 l0 x16_1).f0), .int .u8 ((rd_T55 l0 x16_1).f1)] 55 (0, 0)) (by (with_reducible repeat (first | refine blk_drewN ?_ _ | refine blk_drew ?_ | refine blk_alloc ?_ _)); exact BK226.out) hb)
                            have n4_ := Aside0.mk (Kd.C_below (by repeat (first | (with_reducible exact HR231.out) | (with_reducible refine Kd.C_alloc ?_ _) | (with_reducible refine Kd.C_drewN ?_ _) | (with_reducible refine Kd.C_drew ?_) | exact HR231.out)) hb)
                            have n5_ := Aside0.mk (below_step (by repeat (first | (with_reducible first | exact HB.out | apply below_alloc | apply pw_below_drewN | apply below_drew1 | refine below_set ?_ GE223.out | refine below_set ?_ GE226.out) | exact HB.out)) hb)
                            have n6_ := Aside0.mk (hbox)
                            have n7_ := Aside0.mk ((by rw [hg]; exact (below_size (by repeat (first | (with_reducible first | exact HB.out | apply below_alloc | apply pw_below_drewN | apply below_drew1 | refine below_set ?_ GE223.out | refine below_set ?_ GE226.out) | exact HB.out))) : w.heap.size ≤ gb234))
                            have n8_ := Aside0.mk ((by rw [hg]; exact (below_size (by repeat (first | (with_reducible first | exact HB.out | apply below_alloc | apply pw_below_drewN | apply below_drew1 | refine below_set ?_ GE223.out | refine below_set ?_ GE226.out) | exact HB.out))) : w.heap.size ≤ gb234))
                            have n9_ := Aside0.mk ((by rw [hg]; exact Nat.ne_of_lt (blk_lt (g := gb223) (o := .cells #[.bool x224000_1, .bool x224001_1, .int .i64 x224002_1, .int .i64 x224003_1] 137 (0, 0)) (by (with_reducible repeat (first | refine blk_drewN ?_ _ | refine blk_drew ?_ | refine blk_alloc ?_ _)); exact BK223.out)) : gb223 ≠ gb234))
                            have n10_ := Aside0.mk ((by rw [hg]; exact Nat.ne_of_gt (blk_lt (g := gb223) (o := .cells #[.bool x224000_1, .bool x224001_1, .int .i64 x224002_1, .int .i64 x224003_1] 137 (0, 0)) (by (with_reducible repeat (first | refine blk_drewN ?_ _ | refine blk_drew ?_ | refine blk_alloc ?_ _)); exact BK223.out)) : gb234 ≠ gb223))
                            have n11_ := Aside0.mk ((by rw [hg]; exact Nat.ne_of_lt (blk_lt (g := gb226) (o := .cells #[.int .u8 ((rd_T55 l0 x16_1).f0), .int .u8 ((rd_T55 l0 x16_1).f1)] 55 (0, 0)) (by (with_reducible repeat (first | refine blk_drewN ?_ _ | refine blk_drew ?_ | refine blk_alloc ?_ _)); exact BK226.out)) : gb226 ≠ gb234))
                            have n12_ := Aside0.mk ((by rw [hg]; exact Nat.ne_of_gt (blk_lt (g := gb226) (o := .cells #[.int .u8 ((rd_T55 l0 x16_1).f0), .int .u8 ((rd_T55 l0 x16_1).f1)] 55 (0, 0)) (by (with_reducible repeat (first | refine blk_drewN ?_ _ | refine blk_drew ?_ | refine blk_alloc ?_ _)); exact BK226.out)) : gb234 ≠ gb226))
                            clear HO_5
                            clear HO_6
                            clear BK223
                            clear BK226
                            clear HR231
                            clear HB
                            have HO_5 := n0_
                            have HO_6 := n1_
                            have BK223 := n2_
                            have BK226 := n3_
                            have HR231 := n4_
                            have HB := n5_
                            have BK234 := n6_
                            have GW234 := n7_
                            have GE234 := n8_
                            have NB223_234 := n9_
                            have NB234_223 := n10_
                            have NB226_234 := n11_
                            have NB234_226 := n12_
                            clear n0_ n1_ n2_ n3_ n4_ n5_ n6_ n7_ n8_ n9_ n10_ n11_ n12_
                            clear hb hbox hg
                            refine hK.out _ _ ⟨(blk_cell BK226.out 0).trans rfl, (blk_cell BK226.out 1).trans rfl⟩ (fun hHeld => ?_)
                            clear hK K
                            refine norm_ (a' := ?_) ?_ ?_
                            rotate_left
                            · show Act.put _ (some 11) _ = _
                              simp only [Act.put, List.setIfInBounds_toArray, List.set_cons_zero, List.set_cons_succ, i64_w, i32_w]
                              rfl
                            exact norm_ (by simp only [putAll, Act.put, List.setIfInBounds_toArray, List.set_cons_zero, List.set_cons_succ]) (hCont (gb234) _ ⟨hHeld, (by (with_reducible repeat (first | apply Kd.R_alloc | apply Kd.R_drewN | apply Kd.R_drew)); exact Kd.R_mono HO_5.out (fun _ hk => ⟨hk.1.1, ⟨hk.1.2, hk.2⟩⟩)), (by (with_reducible repeat (first | apply Kd.R_alloc | apply Kd.R_drewN | apply Kd.R_drew)); exact Kd.R_mono HO_6.out (fun _ hk => ⟨hk.1.1, ⟨hk.1.2, hk.2⟩⟩)), (by (with_reducible repeat (first | refine blk_drewN ?_ _ | refine blk_drew ?_ | refine blk_alloc ?_ _)); exact BK223.out), (by (with_reducible repeat (first | refine blk_drewN ?_ _ | refine blk_drew ?_ | refine blk_alloc ?_ _)); exact BK226.out), (by (with_reducible repeat (first | refine blk_drewN ?_ _ | refine blk_drew ?_ | refine blk_alloc ?_ _)); exact BK234.out), GW234.out, GE234.out, NB223_234.out, NB234_223.out, NB226_234.out, NB234_226.out, (by repeat (first | (with_reducible first | exact HB.out | apply below_alloc | apply pw_below_drewN | apply below_drew1 | refine below_set ?_ GE223.out | refine below_set ?_ GE226.out | refine below_set ?_ GE234.out) | exact HB.out))⟩)
                          · skip
                            refine box_step ?hg (N := 11) ?hd (cs := #[.bool false, .bool false, .int .i64 0, .int .i64 0]) (t := 137) ?hr ?_; (case hd => rfl); (case hg => rfl); (case hr => first | (go_simp; done) | (go_simp; rfl))
                            intro gb234 hg w29 hbox hb
                            have n0_ := Aside0.mk (Kd.R_below (Kd.R_elderB (by (with_reducible repeat (first | apply Kd.R_alloc | apply Kd.R_drewN | apply Kd.R_drew)); exact HO_5.out) gb234 (Nat.le_of_eq hg.symm)) hb)
                            have n1_ := Aside0.mk (Kd.R_below (Kd.R_elderB (by (with_reducible repeat (first | apply Kd.R_alloc | apply Kd.R_drewN | apply Kd.R_drew)); exact HO_6.out) gb234 (Nat.le_of_eq hg.symm)) hb)
                            have n2_ := Aside0.mk (blk_below (g := gb223) (o := .cells #[.bool x224000_1, .bool x224001_1, .int .i64 x224002_1, .int .i64 x224003_1] 137 (0, 0)) (by (with_reducible repeat (first | refine blk_drewN ?_ _ | refine blk_drew ?_ | refine blk_alloc ?_ _)); exact BK223.out) hb)
                            have n3_ := Aside0.mk (blk_below (g := gb226) (o := .cells #[.int .u8 ((rd_T55 l0 x16_1).f0), .int .u8 ((rd_T55 l0 x16_1).f1)] 55 (0, 0)) (by (with_reducible repeat (first | refine blk_drewN ?_ _ | refine blk_drew ?_ | refine blk_alloc ?_ _)); exact BK226.out) hb)
                            have n4_ := Aside0.mk (Kd.C_below (by repeat (first | (with_reducible exact HR231.out) | (with_reducible refine Kd.C_alloc ?_ _) | (with_reducible refine Kd.C_drewN ?_ _) | (with_reducible refine Kd.C_drew ?_) | exact HR231.out)) hb)
                            have n5_ := Aside0.mk (below_step (by repeat (first | (with_reducible first | exact HB.out | apply below_alloc | apply pw_below_drewN | apply below_drew1 | refine below_set ?_ GE223.out | refine below_set ?_ GE226.out) | exact HB.out)) hb)
                            have n6_ := Aside0.mk (hbox)
                            have n7_ := Aside0.mk ((by rw [hg]; exact (below_size (by repeat (first | (with_reducible first | exact HB.out | apply below_alloc | apply pw_below_drewN | apply below_drew1 | refine below_set ?_ GE223.out | refine below_set ?_ GE226.out) | exact HB.out))) : w.heap.size ≤ gb234))
                            have n8_ := Aside0.mk ((by rw [hg]; exact (below_size (by repeat (first | (with_reducible first | exact HB.out | apply below_alloc | apply pw_below_drewN | apply below_drew1 | refine below_set ?_ GE223.out | refine below_set ?_ GE226.out) | exact HB.out))) : w.heap.size ≤ gb234))
                            have n9_ := Aside0.mk ((by rw [hg]; exact Nat.ne_of_lt (blk_lt (g := gb223) (o := .cells #[.bool x224000_1, .bool x224001_1, .int .i64 x224002_1, .int .i64 x224003_1] 137 (0, 0)) (by (with_reducible repeat (first | refine blk_drewN ?_ _ | refine blk_drew ?_ | refine blk_alloc ?_ _)); exact BK223.out)) : gb223 ≠ gb234))
                            have n10_ := Aside0.mk ((by rw [hg]; exact Nat.ne_of_gt (blk_lt (g := gb223) (o := .cells #[.bool x224000_1, .bool x224001_1, .int .i64 x224002_1, .int .i64 x224003_1] 137 (0, 0)) (by (with_reducible repeat (first | refine blk_drewN ?_ _ | refine blk_drew ?_ | refine blk_alloc ?_ _)); exact BK223.out)) : gb234 ≠ gb223))
                            have n11_ := Aside0.mk ((by rw [hg]; exact Nat.ne_of_lt (blk_lt (g := gb226) (o := .cells #[.int .u8 ((rd_T55 l0 x16_1).f0), .int .u8 ((rd_T55 l0 x16_1).f1)] 55 (0, 0)) (by (with_reducible repeat (first | refine blk_drewN ?_ _ | refine blk_drew ?_ | refine blk_alloc ?_ _)); exact BK226.out)) : gb226 ≠ gb234))
                            have n12_ := Aside0.mk ((by rw [hg]; exact Nat.ne_of_gt (blk_lt (g := gb226) (o := .cells #[.int .u8 ((rd_T55 l0 x16_1).f0), .int .u8 ((rd_T55 l0 x16_1).f1)] 55 (0, 0)) (by (with_reducible repeat (first | refine blk_drewN ?_ _ | refine blk_drew ?_ | refine blk_alloc ?_ _)); exact BK226.out)) : gb234 ≠ gb226))
                            clear HO_5
                            clear HO_6
                            clear BK223
                            clear BK226
                            clear HR231
                            clear HB
                            have HO_5 := n0_
                            have HO_6 := n1_
                            have BK223 := n2_
                            have BK226 := n3_
                            have HR231 := n4_
                            have HB := n5_
                            have BK234 := n6_
                            have GW234 := n7_
                            have GE234 := n8_
                            have NB223_234 := n9_
                            have NB234_223 := n10_
                            have NB226_234 := n11_
                            have NB234_226 := n12_
                            clear n0_ n1_ n2_ n3_ n4_ n5_ n6_ n7_ n8_ n9_ n10_ n11_ n12_
                            clear hb hbox hg
                            refine hK.out _ _ ⟨(blk_cell BK226.out 0).trans rfl, (blk_cell BK226.out 1).trans rfl⟩ (fun hHeld => ?_)
                            clear hK K
                            refine norm_ (a' := ?_) ?_ ?_
                            rotate_left
                            · show Act.put _ (some 11) _ = _
                              simp only [Act.put, List.setIfInBounds_toArray, List.set_cons_zero, List.set_cons_succ, i64_w, i32_w]
                              rfl
                            refine one_ (i := 5) (N := some 49) #[true, true, true, true, true, true, true, false, true, false] rfl rfl (one_of HT_.out (by kernel_rfl)) (by decide) (fun K hK => ?_)
                            refine goes_ Tryd.func107 (by kernel_rfl) rfl #[.int .u8 ((rd_T55 l0 x16_1).f0)] (by rfl) rfl rfl (by (try simp only [List.map_toArray, List.map_cons, List.map_nil]); first | done | rfl | (simp only [List.length_drop, List.length_take]; rfl)) ?_
                            with_reducible refine (term_plain.calls ((rd_T55 l0 x16_1).f0) t233 _ A22.out).mono ?_
                            rintro e w' ⟨rfl, ⟨nd, rfl⟩⟩
                            refine ⟨_, rfl, ?_⟩
                            refine hK.out _ _ ⟨(blk_cell BK226.out 0).trans rfl, (blk_cell BK226.out 1).trans rfl⟩ (fun hHeld => ?_)
                            clear hK K
                            refine norm_ (a' := ?_) ?_ ?_
                            rotate_left
                            · show Act.put _ (some 49) _ = _
                              simp only [Act.put, List.setIfInBounds_toArray, List.set_cons_zero, List.set_cons_succ, i64_w, i32_w]
                              rfl
                            refine pure_ (i := 7) (N := some 51) (v := ?_) (a' := ?_) #[true, true, true, true, true, true, true, true, true, false] rfl rfl (any_of HT_.out (by kernel_rfl)) (fun _ _ _ h => h) (Or.inl ⟨by rfl, ?_⟩) ?_ ?_
                            rotate_left
                            · intro w'
                              go_simp
                              with_reducible rfl
                            rotate_left
                            · simp only [Act.put, List.setIfInBounds_toArray, List.set_cons_zero, List.set_cons_succ, i64_w, i32_w]
                              rfl
                            exact norm_ (by simp only [putAll, Act.put, List.setIfInBounds_toArray, List.set_cons_zero, List.set_cons_succ]) (hCont (gb234) _ ⟨hHeld, (by (with_reducible repeat (first | apply Kd.R_alloc | apply Kd.R_drewN | apply Kd.R_drew)); exact Kd.R_mono HO_5.out (fun _ hk => ⟨hk.1.1, ⟨hk.1.2, hk.2⟩⟩)), (by (with_reducible repeat (first | apply Kd.R_alloc | apply Kd.R_drewN | apply Kd.R_drew)); exact Kd.R_mono HO_6.out (fun _ hk => ⟨hk.1.1, ⟨hk.1.2, hk.2⟩⟩)), (by (with_reducible repeat (first | refine blk_drewN ?_ _ | refine blk_drew ?_ | refine blk_alloc ?_ _)); exact BK223.out), (by (with_reducible repeat (first | refine blk_drewN ?_ _ | refine blk_drew ?_ | refine blk_alloc ?_ _)); exact BK226.out), (by (with_reducible repeat (first | refine blk_drewN ?_ _ | refine blk_drew ?_ | refine blk_alloc ?_ _)); exact BK234.out), GW234.out, GE234.out, NB223_234.out, NB234_223.out, NB226_234.out, NB234_226.out, (by repeat (first | (with_reducible first | exact HB.out | apply below_alloc | apply pw_below_drewN | apply below_drew1 | refine below_set ?_ GE223.out | refine below_set ?_ GE226.out | refine below_set ?_ GE234.out) | exact HB.out))⟩)
                        rintro gb234 w30 ⟨hS_, h0_, h1_, h2_, h3_, h4_, h5_, h6_, h7_, h8_, h9_, h10_, h11_⟩
                        have n0_ : Aside0 (Kd.R k137 137 w30 w.heap.size (fun k_ => some k_ ≠ (.slice Ao23 x6_1.length co23 : Value).ownBlock ∧ k_ ≠ gb223 ∧ k_ ≠ gb234) u5 x5_1) := ⟨h0_⟩
                        have n1_ : Aside0 (Kd.R k137 137 w30 w.heap.size (fun k_ => some k_ ≠ (u5 : Value).ownBlock ∧ k_ ≠ gb223 ∧ k_ ≠ gb234) (.slice Ao23 x6_1.length co23) x6_1) := ⟨h1_⟩
                        have n2_ : Aside0 (w30.heap[gb223]? = some (.cells #[.bool x224000_1, .bool x224001_1, .int .i64 x224002_1, .int .i64 x224003_1] 137 (0, 0))) := ⟨h2_⟩
                        have n3_ : Aside0 (w30.heap[gb226]? = some (.cells #[.int .u8 ((rd_T55 l0 x16_1).f0), .int .u8 ((rd_T55 l0 x16_1).f1)] 55 (0, 0))) := ⟨h3_⟩
                        have n4_ : Aside0 (w30.heap[gb234]? = some (.cells #[.bool false, .bool false, .int .i64 0, .int .i64 0] 137 (0, 0))) := ⟨h4_⟩
                        have n5_ : Aside0 (w.heap.size ≤ gb234) := ⟨h5_⟩
                        have n6_ : Aside0 (w.heap.size ≤ gb234) := ⟨h6_⟩
                        have n7_ : Aside0 (gb223 ≠ gb234) := ⟨h7_⟩
                        have n8_ : Aside0 (gb234 ≠ gb223) := ⟨h8_⟩
                        have n9_ : Aside0 (gb226 ≠ gb234) := ⟨h9_⟩
                        have n10_ : Aside0 (gb234 ≠ gb226) := ⟨h10_⟩
                        have n11_ : Aside0 (Below w.heap.size w w30) := ⟨h11_⟩
                        clear HO_5
                        clear HO_6
                        clear BK223
                        clear BK226
                        clear HR231
                        clear HB
                        clear h0_ h1_ h2_ h3_ h4_ h5_ h6_ h7_ h8_ h9_ h10_ h11_
                        have HO_5 := n0_
                        have HO_6 := n1_
                        have BK223 := n2_
                        have BK226 := n3_
                        have BK234 := n4_
                        have GW234 := n5_
                        have GE234 := n6_
                        have NB223_234 := n7_
                        have NB234_223 := n8_
                        have NB226_234 := n9_
                        have NB234_226 := n10_
                        have HB := n11_
                        clear n0_ n1_ n2_ n3_ n4_ n5_ n6_ n7_ n8_ n9_ n10_ n11_
                        have hHeld : w30.cell? ⟨gb226, 0, none⟩ = some (.int .u8 ((rd_T55 l0 x16_1).f0)) ∧ w30.cell? ⟨gb226, 1, none⟩ = some (.int .u8 ((rd_T55 l0 x16_1).f1)) := hS_
                        refine norm_ (a' := ?_) ?_ ?_
                        rotate_left
                        · simp only [putAll, Act.put, List.setIfInBounds_toArray, List.set_cons_zero, List.set_cons_succ]
                          rfl
                        refine one_ (i := 9) (N := none) #[true, true, true, true, true, true, true, true, true, true] rfl rfl (one_of HT_.out (by kernel_rfl)) (by decide) (fun K hK => ?_)
                        have hs31 : w30.cell? ⟨gb234, 0, none⟩ = some (.bool false) := (blk_cell BK234.out 0).trans rfl
                        have hfs31 := blk_frozen BK234.out 0
                        have hns31_0 := NB223_234.out
                        have hns31_1 := NB226_234.out
                        have hms31_0 := NB234_223.out
                        have hms31_1 := NB234_226.out
                        have hs32 : w30.cell? ⟨gb234, 1, none⟩ = some (.bool false) := (blk_cell BK234.out 1).trans rfl
                        have hfs32 := blk_frozen BK234.out 1
                        have hns32_0 := NB223_234.out
                        have hns32_1 := NB226_234.out
                        have hms32_0 := NB234_223.out
                        have hms32_1 := NB234_226.out
                        have hs33 : w30.cell? ⟨gb234, 2, none⟩ = some (.int .i64 0) := (blk_cell BK234.out 2).trans rfl
                        have hfs33 := blk_frozen BK234.out 2
                        have hns33_0 := NB223_234.out
                        have hns33_1 := NB226_234.out
                        have hms33_0 := NB234_223.out
                        have hms33_1 := NB234_226.out
                        have hs34 : w30.cell? ⟨gb234, 3, none⟩ = some (.int .i64 0) := (blk_cell BK234.out 3).trans rfl
                        have hfs34 := blk_frozen BK234.out 3
                        have hns34_0 := NB223_234.out
                        have hns34_1 := NB226_234.out
                        have hms34_0 := NB234_223.out
                        have hms34_1 := NB234_226.out
                        refine skip_ (w1 := ?_) (by rfl) rfl ?_ ?_
                        rotate_left
                        · go_simp
                          rfl
                        refine hK.out _ _ ⟨((cell_far (p := ⟨gb234, _, none⟩) NB226_234.out _).trans (((cell_far (p := ⟨gb234, _, none⟩) NB226_234.out _).trans (((cell_far (p := ⟨gb234, _, none⟩) NB226_234.out _).trans (((cell_far (p := ⟨gb234, _, none⟩) NB226_234.out _).trans (hHeld.1)))))))), ((cell_far (p := ⟨gb234, _, none⟩) NB226_234.out _).trans (((cell_far (p := ⟨gb234, _, none⟩) NB226_234.out _).trans (((cell_far (p := ⟨gb234, _, none⟩) NB226_234.out _).trans (((cell_far (p := ⟨gb234, _, none⟩) NB226_234.out _).trans (hHeld.2))))))))⟩ (fun hHeld => ?_)
                        clear hK K
                        refine done_ (done_of HT_.out (by kernel_rfl)) ?_
                        try go_wp2
                        go_loopg [54] kj6 (fun kq v54 w' => ∃ (x54_3 : Int) (x235001_3 : Bool) (x235002_3 : Int) (x235003_3 : Int), v54 = .int .i64 x54_3 ∧ Aside0 (term_read.l1 kq x5_1 x6_1 t227 l0 (l0.length : Int) x16_1 y228 (y228.length : Int) x54_3 (decide (((rd_T55 l0 x16_1).f0) ≥ 19)) x235001_3 x235002_3 x235003_3 = some (r1, r2, r3, r4, r5, r6)) ∧ Aside0 (kq ≤ kj6) ∧ Aside0 (Kd.R k137 137 w' w.heap.size (fun k_ => some k_ ≠ ((.slice Ao23 x6_1.length co23) : Value).ownBlock ∧ k_ ≠ gb223 ∧ k_ ≠ gb234) u5 x5_1) ∧ Aside0 (Kd.R k137 137 w' w.heap.size (fun k_ => some k_ ≠ (u5 : Value).ownBlock ∧ k_ ≠ gb223 ∧ k_ ≠ gb234) (.slice Ao23 x6_1.length co23) x6_1) ∧ Aside0 (w'.heap[gb223]? = some (.cells #[.bool x224000_1, .bool x224001_1, .int .i64 x224002_1, .int .i64 x224003_1] 137 (0, 0))) ∧ Aside0 (w'.heap[gb226]? = some (.cells #[.int .u8 ((rd_T55 l0 x16_1).f0), .int .u8 ((rd_T55 l0 x16_1).f1)] 55 (0, 0))) ∧ Aside0 (w'.heap[gb234]? = some (.cells #[.bool (decide (((rd_T55 l0 x16_1).f0) ≥ 19)), .bool x235001_3, .int .i64 x235002_3, .int .i64 x235003_3] 137 (0, 0))) ∧ Aside0 (Below w.heap.size w w'))
                        case atStart => exact ⟨(0), (t233), (1), (x16_1), (by first | rfl | (simp; done) | (simp [*]; done)), H', ⟨Nat.le_refl _⟩, ⟨by (with_reducible repeat (first | apply Kd.R_alloc | apply Kd.R_drewN | apply Kd.R_drew)); exact Kd.R_mono (Kd.R_far (p := ⟨gb234, 3, none⟩) (Kd.R_far (p := ⟨gb234, 2, none⟩) (Kd.R_far (p := ⟨gb234, 1, none⟩) (Kd.R_far (p := ⟨gb234, 0, none⟩) (Kd.R_mono HO_5.out (fun k_ hk => (⟨hk, hk.2.2⟩ : _ ∧ k_ ≠ gb234))) (fun _ hk => hk.2) (.bool (decide (((rd_T55 l0 x16_1).f0) ≥ 19)))) (fun _ hk => hk.2) (.bool t233)) (fun _ hk => hk.2) (.int .i64 1)) (fun _ hk => hk.2) (.int .i64 x16_1)) (fun _ hk => ⟨hk.1.1, ⟨hk.1.2.1, hk.1.2.2⟩⟩)⟩, ⟨by (with_reducible repeat (first | apply Kd.R_alloc | apply Kd.R_drewN | apply Kd.R_drew)); exact Kd.R_mono (Kd.R_far (p := ⟨gb234, 3, none⟩) (Kd.R_far (p := ⟨gb234, 2, none⟩) (Kd.R_far (p := ⟨gb234, 1, none⟩) (Kd.R_far (p := ⟨gb234, 0, none⟩) (Kd.R_mono HO_6.out (fun k_ hk => (⟨hk, hk.2.2⟩ : _ ∧ k_ ≠ gb234))) (fun _ hk => hk.2) (.bool (decide (((rd_T55 l0 x16_1).f0) ≥ 19)))) (fun _ hk => hk.2) (.bool t233)) (fun _ hk => hk.2) (.int .i64 1)) (fun _ hk => hk.2) (.int .i64 x16_1)) (fun _ hk => ⟨hk.1.1, ⟨hk.1.2.1, hk.1.2.2⟩⟩)⟩, ⟨by (with_reducible repeat (first | refine blk_drewN ?_ _ | refine blk_drew ?_ | refine blk_alloc ?_ _)); refine blk_far ?_ NB223_234.out _; (with_reducible repeat (first | refine blk_drewN ?_ _ | refine blk_drew ?_ | refine blk_alloc ?_ _)); refine blk_far ?_ NB223_234.out _; (with_reducible repeat (first | refine blk_drewN ?_ _ | refine blk_drew ?_ | refine blk_alloc ?_ _)); refine blk_far ?_ NB223_234.out _; (with_reducible repeat (first | refine blk_drewN ?_ _ | refine blk_drew ?_ | refine blk_alloc ?_ _)); refine blk_far ?_ NB223_234.out _; (with_reducible repeat (first | refine blk_drewN ?_ _ | refine blk_drew ?_ | refine blk_alloc ?_ _)); exact BK223.out⟩, ⟨by (with_reducible repeat (first | refine blk_drewN ?_ _ | refine blk_drew ?_ | refine blk_alloc ?_ _)); refine blk_far ?_ NB226_234.out _; (with_reducible repeat (first | refine blk_drewN ?_ _ | refine blk_drew ?_ | refine blk_alloc ?_ _)); refine blk_far ?_ NB226_234.out _; (with_reducible repeat (first | refine blk_drewN ?_ _ | refine blk_drew ?_ | refine blk_alloc ?_ _)); refine blk_far ?_ NB226_234.out _; (with_reducible repeat (first | refine blk_drewN ?_ _ | refine blk_drew ?_ | refine blk_alloc ?_ _)); refine blk_far ?_ NB226_234.out _; (with_reducible repeat (first | refine blk_drewN ?_ _ | refine blk_drew ?_ | refine blk_alloc ?_ _)); exact BK226.out⟩, ⟨by (with_reducible repeat (first | refine blk_drewN ?_ _ | refine blk_drew ?_ | refine blk_alloc ?_ _)); refine blk_put (cs := #[.bool (decide (((rd_T55 l0 x16_1).f0) ≥ 19)), .bool t233, .int .i64 1, .int .i64 0]) ?_ 3 _ rfl; (with_reducible repeat (first | refine blk_drewN ?_ _ | refine blk_drew ?_ | refine blk_alloc ?_ _)); refine blk_put (cs := #[.bool (decide (((rd_T55 l0 x16_1).f0) ≥ 19)), .bool t233, .int .i64 0, .int .i64 0]) ?_ 2 _ rfl; (with_reducible repeat (first | refine blk_drewN ?_ _ | refine blk_drew ?_ | refine blk_alloc ?_ _)); refine blk_put (cs := #[.bool (decide (((rd_T55 l0 x16_1).f0) ≥ 19)), .bool false, .int .i64 0, .int .i64 0]) ?_ 1 _ rfl; (with_reducible repeat (first | refine blk_drewN ?_ _ | refine blk_drew ?_ | refine blk_alloc ?_ _)); refine blk_put (cs := #[.bool false, .bool false, .int .i64 0, .int .i64 0]) ?_ 0 _ rfl; (with_reducible repeat (first | refine blk_drewN ?_ _ | refine blk_drew ?_ | refine blk_alloc ?_ _)); exact BK234.out⟩, ⟨by repeat (first | (with_reducible first | exact HB.out | apply below_alloc | apply pw_below_drewN | apply below_drew1 | refine below_set ?_ GE223.out | refine below_set ?_ GE226.out | refine below_set ?_ GE234.out) | exact HB.out)⟩⟩
                        case round =>
                          clear H'
                          try clear c1
                          try clear c2
                          try clear p2
                          try clear q2
                          try clear hx2
                          try clear c3
                          try clear c3b0
                          try clear c4
                          try clear c4b0
                          try clear c5
                          try clear c5b0
                          try clear p6
                          try clear c9
                          try clear c10
                          try clear c12
                          try clear c12b0
                          try clear c14
                          try clear c15
                          try clear c18
                          try clear c18b0
                          try clear c18b1
                          try clear c19
                          try clear c19b0
                          try clear c19b1
                          try clear c21
                          try clear p22
                          try clear q22
                          try clear hx22
                          try clear c24
                          try clear q24
                          try clear c25
                          try clear hcz10_0
                          try clear hcz10_1
                          try clear hcz16_0
                          try clear hcz16_1
                          try clear hcz16_2
                          try clear hcz16_3
                          try clear hcz26_0
                          try clear hcz26_1
                          try clear hfz10_0
                          try clear hfz10_1
                          try clear hfz16_0
                          try clear hfz16_1
                          try clear hfz16_2
                          try clear hfz16_3
                          try clear hfz26_0
                          try clear hfz26_1
                          try clear hx225_0
                          try clear hx225_1
                          try clear p2
                          try clear p225
                          try clear q024
                          try clear q2
                          try clear q225
                          try clear q24
                          obtain ⟨x54_3, x235001_3, x235002_3, x235003_3, rfl, HA, HK3, HO_5, HO_6, BK223, BK226, BK234, HB⟩ := hrel
                          cases gk with
                          | zero => exact absurd HA.out (by simp [term_read.l1])
                          | succ k3 =>
                            have H := HA.out
                            clear HA
                            simp only [term_read.l1] at H
                            by_cases c35 : x54_3 < (y228.length : Int)
                            rotate_left
                            · rw [if_neg c35] at H
                              have c35b0 : decide (x54_3 < (y228.length : Int)) = false := decide_eq_false c35
                              clear c35
                              obtain ⟨ji75, hji75⟩ : ∃ j_ : Int, (wrap64 ((x6_1.length : Int) - t227)) = j_ := ⟨_, rfl⟩
                              replace H : (if 0 ≤ (ji75) then (if (ji75) ≤ (x6_1.length : Int) then ((some (x6_1.take ((ji75) : Int).toNat : List (S137))).bind fun y237 => (if y237.length < 5864062014805 then (if x5_1.length < 5864062014805 then (term_read.l0 k3 (x5_1 ++ [(⟨(decide (((rd_T55 l0 x16_1).f0) ≥ 19)), x235001_3, x235002_3, x235003_3⟩ : S137)]) (y237 ++ [(⟨(decide (((rd_T55 l0 x16_1).f0) ≥ 19)), x235001_3, x235002_3, x235003_3⟩ : S137)]) l0 (l0.length : Int) (wrap64 (x16_1 + 1))) else (none)) else (none))) else (none)) else (none)) = some (r1, r2, r3, r4, r5, r6) := by first | (rw [hji75] at H; exact H) | (simp only [hji75] at H ⊢; exact H)
                              have hji75w : (IntKind.i64.wrap ((x6_1.length : Int) - t227)) = ji75 := (i64_w _).trans hji75
                              obtain rfl : ji75 = ji17 := hji75.symm.trans hji17
                              by_cases c76 : 0 ≤ (ji75)
                              · rw [if_pos c76] at H
                                have c76b0 := eq_true c76
                                have c76b1 : decide (0 ≤ (ji75)) = true := decide_eq_true c76
                                clear c76
                                by_cases c77 : (ji75) ≤ (x6_1.length : Int)
                                · rw [if_pos c77] at H
                                  have c77b0 := eq_true c77
                                  have c77b1 : decide ((ji75) ≤ (x6_1.length : Int)) = true := decide_eq_true c77
                                  clear c77
                                  obtain ⟨y237, hy237⟩ : ∃ y_ : List (S137), y_ = (x6_1.take ((ji75) : Int).toNat) := ⟨_, rfl⟩
                                  replace H : (if y237.length < 5864062014805 then (if x5_1.length < 5864062014805 then (term_read.l0 k3 (x5_1 ++ [(⟨(decide (((rd_T55 l0 x16_1).f0) ≥ 19)), x235001_3, x235002_3, x235003_3⟩ : S137)]) (y237 ++ [(⟨(decide (((rd_T55 l0 x16_1).f0) ≥ 19)), x235001_3, x235002_3, x235003_3⟩ : S137)]) l0 (l0.length : Int) (wrap64 (x16_1 + 1))) else (none)) else (none)) = some (r1, r2, r3, r4, r5, r6) := by first | (rw [hy237]; with_reducible exact H) | (have H2_ := (Option.bind_some _ _).symm.trans H; rw [hy237]; with_reducible exact H2_) | (have H2_ := (Option.bind_some _ _).symm.trans H; with_reducible exact H2_) | with_reducible exact H | (rw [hy237]; exact H) | exact H
                                  have Ny237 := Aside0.mk hy237
                                  clear hy237
                                  by_cases c78 : y237.length < 5864062014805
                                  · rw [if_pos c78] at H
                                    have LMc78 := Aside0.mk c78
                                    clear c78
                                    obtain ⟨y240, hy240⟩ : ∃ y_ : List (S137), y_ = (y237 ++ [(⟨(decide (((rd_T55 l0 x16_1).f0) ≥ 19)), x235001_3, x235002_3, x235003_3⟩ : S137)]) := ⟨_, rfl⟩
                                    replace H : (if x5_1.length < 5864062014805 then (term_read.l0 k3 (x5_1 ++ [(⟨(decide (((rd_T55 l0 x16_1).f0) ≥ 19)), x235001_3, x235002_3, x235003_3⟩ : S137)]) y240 l0 (l0.length : Int) (wrap64 (x16_1 + 1))) else (none)) = some (r1, r2, r3, r4, r5, r6) := by first | (rw [hy240]; with_reducible exact H) | (have H2_ := (Option.bind_some _ _).symm.trans H; rw [hy240]; with_reducible exact H2_) | (have H2_ := (Option.bind_some _ _).symm.trans H; with_reducible exact H2_) | with_reducible exact H | (rw [hy240]; exact H) | exact H
                                    have Ny240 := Aside0.mk hy240
                                    clear hy240
                                    by_cases c79 : x5_1.length < 5864062014805
                                    · rw [if_pos c79] at H
                                      have LMc79 := Aside0.mk c79
                                      clear c79
                                      obtain ⟨y243, hy243⟩ : ∃ y_ : List (S137), y_ = (x5_1 ++ [(⟨(decide (((rd_T55 l0 x16_1).f0) ≥ 19)), x235001_3, x235002_3, x235003_3⟩ : S137)]) := ⟨_, rfl⟩
                                      replace H : (term_read.l0 k3 y243 y240 l0 (l0.length : Int) (wrap64 (x16_1 + 1))) = some (r1, r2, r3, r4, r5, r6) := by first | (rw [hy243]; with_reducible exact H) | (have H2_ := (Option.bind_some _ _).symm.trans H; rw [hy243]; with_reducible exact H2_) | (have H2_ := (Option.bind_some _ _).symm.trans H; with_reducible exact H2_) | with_reducible exact H | (rw [hy243]; exact H) | exact H
                                      have Ny243 := Aside0.mk hy243
                                      clear hy243
                                      have H' := Aside0.mk H
                                      clear H
                                      try go_wp2
                                      have n0_ := Aside0.mk (Kd.R_drew HO_5.out)
                                      have n1_ := Aside0.mk (Kd.R_drew HO_6.out)
                                      have n2_ := Aside0.mk (blk_drew BK223.out)
                                      have n3_ := Aside0.mk (blk_drew BK226.out)
                                      have n4_ := Aside0.mk (blk_drew BK234.out)
                                      have n5_ := Aside0.mk (below_drew1 HB.out)
                                      clear HO_5
                                      clear HO_6
                                      clear BK223
                                      clear BK226
                                      clear BK234
                                      clear HB
                                      have HO_5 := n0_
                                      have HO_6 := n1_
                                      have BK223 := n2_
                                      have BK226 := n3_
                                      have BK234 := n4_
                                      have HB := n5_
                                      clear n0_ n1_ n2_ n3_ n4_ n5_
                                      have q81 : ((ji75) : Int) ≤ ((x6_1.length : Int) : Int) := of_decide_eq_true (by first | (with_reducible assumption) | assumption)
                                      obtain ⟨i081, hi081, _, hsz81, _⟩ := info_parts info137
                                      have hcut81 := cut_to (P := Tryd.prog) 135 137 .i64 Tryd.underlying135 hi081 Ao23 x6_1.length co23 (ji75) (of_decide_eq_true (by first | (with_reducible assumption) | assumption)) q81 (Kd.R_reads' HO_6.out).2.1
                                      have hr81 := Kd.R_take (m := ((ji75) : Int).toNat) HO_6.out (by omega)
                                      have hy81 : y237.length = ((ji75) : Int).toNat := (by rw [Ny237.out, List.length_take]; omega)
                                      rw [← Ny237.out] at hr81
                                      rw [← hy81] at hr81 hcut81
                                      clear hy81 hi081 hsz81 HO_6
                                      have HO239 := Aside0.mk hr81
                                      clear hr81
                                      replace q81 := eq_true q81
                                      refine start_ (n := 10) (S := fun w' => w'.cell? ⟨gb234, 0, none⟩ = some (.bool (decide (((rd_T55 l0 x16_1).f0) ≥ 19))) ∧ w'.cell? ⟨gb234, 1, none⟩ = some (.bool x235001_3) ∧ w'.cell? ⟨gb234, 2, none⟩ = some (.int .i64 x235002_3) ∧ w'.cell? ⟨gb234, 3, none⟩ = some (.int .i64 x235003_3)) (ds := []) #[false, false, false, false, false, false, false, false, false, false] (by kernel_rfl) rfl rfl ⟨(blk_cell BK234.out 0).trans rfl, (blk_cell BK234.out 1).trans rfl, (blk_cell BK234.out 2).trans rfl, (blk_cell BK234.out 3).trans rfl⟩ (fun hHeld => ?_); refine with_tabW term_read.tab20 term_read.bits20 (fun HT_ HW_ => ?_)
                                      generalize wr.drew = w80 at HO_5 HO_6 BK223 BK226 BK234 HB HO239 hHeld ⊢
                                      refine pure_ (i := 0) (N := some 79) (v := ?_) (a' := ?_) #[true, false, false, false, false, false, false, false, false, false] rfl rfl (any_of HT_.out (by kernel_rfl)) (fun _ _ _ h => h) (Or.inl ⟨by rfl, ?_⟩) ?_ ?_
                                      rotate_left
                                      · intro w'
                                        go_simp
                                        with_reducible rfl
                                      rotate_left
                                      · simp only [Act.put, List.setIfInBounds_toArray, List.set_cons_zero, List.set_cons_succ, i64_w, i32_w]
                                        rfl
                                      refine pure_ (i := 1) (N := some 80) (v := ?_) (a' := ?_) #[true, true, false, false, false, false, false, false, false, false] rfl rfl (any_of HT_.out (by kernel_rfl)) (fun _ _ _ h => h) (Or.inl ⟨by rfl, ?_⟩) ?_ ?_
                                      rotate_left
                                      · intro w'
                                        go_simp
                                        with_reducible rfl
                                      rotate_left
                                      · simp only [Act.put, List.setIfInBounds_toArray, List.set_cons_zero, List.set_cons_succ, i64_w, i32_w]
                                        rfl
                                      refine pure_ (i := 2) (N := some 81) (v := ?_) (a' := ?_) #[true, true, true, false, false, false, false, false, false, false] rfl rfl (any_of HT_.out (by kernel_rfl)) (fun _ _ _ h => h) (Or.inl ⟨by rfl, ?_⟩) ?_ ?_
                                      rotate_left
                                      · intro w'
                                        go_simp
                                        with_reducible rfl
                                      rotate_left
                                      · simp only [Act.put, List.setIfInBounds_toArray, List.set_cons_zero, List.set_cons_succ, i64_w, i32_w]
                                        rfl
                                      refine pure_ (i := 3) (N := some 82) (v := ?_) (a' := ?_) #[true, true, true, true, false, false, false, false, false, false] rfl rfl (any_of HT_.out (by kernel_rfl)) (fun _ _ _ h => h) (Or.inl ⟨by rfl, ?_⟩) ?_ ?_
                                      rotate_left
                                      · intro w'
                                        go_simp
                                        with_reducible rfl
                                      rotate_left
                                      · simp only [Act.put, List.setIfInBounds_toArray, List.set_cons_zero, List.set_cons_succ, i64_w, i32_w]
                                        rfl
                                      refine pure_ (i := 4) (N := some 83) (v := ?_) (a' := ?_) #[true, true, true, true, true, false, false, false, false, false] rfl rfl (any_of HT_.out (by kernel_rfl)) (fun _ _ _ h => h) (Or.inl ⟨by rfl, ?_⟩) ?_ ?_
                                      rotate_left
                                      · intro w'
                                        go_simp
                                        with_reducible rfl
                                      rotate_left
                                      · simp only [Act.put, List.setIfInBounds_toArray, List.set_cons_zero, List.set_cons_succ, i64_w, i32_w]
                                        rfl
                                      refine pure_ (i := 5) (N := some 84) (v := ?_) (a' := ?_) #[true, true, true, true, true, true, false, false, false, false] rfl rfl (any_of HT_.out (by kernel_rfl)) (fun _ _ _ h => h) (Or.inl ⟨by rfl, ?_⟩) ?_ ?_
                                      rotate_left
                                      · intro w'
                                        go_simp
                                        with_reducible rfl
                                      rotate_left
                                      · simp only [Act.put, List.setIfInBounds_toArray, List.set_cons_zero, List.set_cons_succ, i64_w, i32_w]
                                        rfl
                                      refine take_ (i := 6) (N := some 85) (v := ?_) (a' := ?_) #[true, true, true, true, true, true, true, false, false, false] rfl rfl (take_ofW HT_.out HW_.out (by kernel_rfl)) (fun _ _ _ h => h) (Or.inl ⟨by rfl, ?_⟩) hHeld ?_ ?_
                                      rotate_left
                                      · rintro w' ⟨s0, s1, s2, s3⟩
                                        go_simp
                                        with_reducible rfl
                                      rotate_left
                                      · simp only [Act.put, List.setIfInBounds_toArray, List.set_cons_zero, List.set_cons_succ, i64_w, i32_w]
                                        rfl
                                      refine one_ (i := 7) (N := some 86) #[true, true, true, true, true, true, true, true, false, false] rfl rfl (one_of HT_.out (by kernel_rfl)) (by decide) (fun K hK => ?_)
                                      refine value_ (w1 := ?_) (v := ?_) (by rfl) rfl ?_ ?_
                                      rotate_left 2
                                      · go_simp
                                        constructor
                                        · rfl
                                        · rfl
                                      refine hK.out _ _ ⟨(blk_cell (blk_alloc BK234.out _) 0).trans rfl, (blk_cell (blk_alloc BK234.out _) 1).trans rfl, (blk_cell (blk_alloc BK234.out _) 2).trans rfl, (blk_cell (blk_alloc BK234.out _) 3).trans rfl⟩ (fun hHeld => ?_)
                                      clear hK K
                                      refine norm_ (a' := ?_) ?_ ?_
                                      rotate_left
                                      · show Act.put _ (some 86) _ = _
                                        simp only [Act.put, List.setIfInBounds_toArray, List.set_cons_zero, List.set_cons_succ, i64_w, i32_w]
                                        rfl
                                      refine one_ (i := 8) (N := some 87) #[true, true, true, true, true, true, true, true, true, false] rfl rfl (one_of HT_.out (by kernel_rfl)) (by decide) (fun K hK => ?_)
                                      refine Kd.R_append_step k137 (w0 := w) w.heap.size (by rfl) (.tmp 84) (.tmp 86) 135 137 (.agg #[(.bool false), (.bool false), (.int .i64 0), (.int .i64 0)]) 24 rfl Tryd.underlying135 info137 rfl (by decide) (by omega) (.slice Ao23 y237.length co23) y237 (⟨(decide (((rd_T55 l0 x16_1).f0) ≥ 19)), x235001_3, x235002_3, x235003_3⟩ : S137) [.bool (decide (((rd_T55 l0 x16_1).f0) ≥ 19)), .bool x235001_3, .int .i64 x235002_3, .int .i64 x235003_3] (fun k_ => some k_ ≠ (u5 : Value).ownBlock ∧ k_ ≠ gb223 ∧ k_ ≠ gb234) (fun _ => False) rfl rfl ?aP (fun _ hk => hk.elim) ?aF ?aO ?aB ?aS ?aL ?_
                                      (case aP => exact k137_mkM _ _ _ (⟨(decide (((rd_T55 l0 x16_1).f0) ≥ 19)), x235001_3, x235002_3, x235003_3⟩ : S137))
                                      (case aB => exact (by repeat (first | (with_reducible first | exact HB.out | apply below_alloc | apply pw_below_drewN | apply below_drew1 | refine below_set ?_ GE223.out | refine below_set ?_ GE226.out | refine below_set ?_ GE234.out) | exact HB.out)))
                                      (case aF => exact (fun k_ hk => ⟨Kd.fresh' (Kd.R_lt (by (with_reducible repeat (first | apply Kd.R_alloc | apply Kd.R_drewN | apply Kd.R_drew)); exact HO_5.out)) k_ hk, Kd.freshB (g := gb223) (o := .cells #[.bool x224000_1, .bool x224001_1, .int .i64 x224002_1, .int .i64 x224003_1] 137 (0, 0)) (by (with_reducible repeat (first | refine blk_drewN ?_ _ | refine blk_drew ?_ | refine blk_alloc ?_ _)); exact BK223.out) k_ hk, Kd.freshB (g := gb234) (o := .cells #[.bool (decide (((rd_T55 l0 x16_1).f0) ≥ 19)), .bool x235001_3, .int .i64 x235002_3, .int .i64 x235003_3] 137 (0, 0)) (by (with_reducible repeat (first | refine blk_drewN ?_ _ | refine blk_drew ?_ | refine blk_alloc ?_ _)); exact BK234.out) k_ hk⟩))
                                      (case aO => exact (by (with_reducible repeat (first | apply Kd.R_alloc | apply Kd.R_drewN | apply Kd.R_drew)); exact HO239.out))
                                      (case aS => exact (below_size (by repeat (first | (with_reducible first | exact HB.out | apply below_alloc | apply pw_below_drewN | apply below_drew1 | refine below_set ?_ GE223.out | refine below_set ?_ GE226.out | refine below_set ?_ GE234.out) | exact HB.out))))
                                      (case aL => have := LMc78.out; omega)
                                      intro v241 w82 ho hb hg hat
                                      rw [← Ny240.out] at ho
                                      have n0_ := Aside0.mk (Kd.R_after (ok := (fun k_ => k_ ≠ gb223 ∧ k_ ≠ gb234)) (by (with_reducible repeat (first | apply Kd.R_alloc | apply Kd.R_drewN | apply Kd.R_drew)); exact Kd.R_mono HO_5.out (fun _ hk => ⟨⟨hk.2.1, hk.2.2⟩, (show ∀ x y : Nat, (Value.slice Ao23 x co23).ownBlock = (Value.slice Ao23 y co23).ownBlock from fun x y => by cases Ao23 <;> rfl) y237.length x6_1.length ▸ hk.1⟩)) hg hat)
                                      have n1_ := Aside0.mk (blk_grown (g := gb223) (o := .cells #[.bool x224000_1, .bool x224001_1, .int .i64 x224002_1, .int .i64 x224003_1] 137 (0, 0)) (by (with_reducible repeat (first | refine blk_drewN ?_ _ | refine blk_drew ?_ | refine blk_alloc ?_ _)); exact BK223.out) hg (Kd.R_away HO239.out (fun _ hk => hk.2.1)))
                                      have n2_ := Aside0.mk (blk_grown (g := gb226) (o := .cells #[.int .u8 ((rd_T55 l0 x16_1).f0), .int .u8 ((rd_T55 l0 x16_1).f1)] 55 (0, 0)) (by (with_reducible repeat (first | refine blk_drewN ?_ _ | refine blk_drew ?_ | refine blk_alloc ?_ _)); exact BK226.out) hg (Kd.R_ne HO239.out BK226.out (by decide)))
                                      have n3_ := Aside0.mk (blk_grown (g := gb234) (o := .cells #[.bool (decide (((rd_T55 l0 x16_1).f0) ≥ 19)), .bool x235001_3, .int .i64 x235002_3, .int .i64 x235003_3] 137 (0, 0)) (by (with_reducible repeat (first | refine blk_drewN ?_ _ | refine blk_drew ?_ | refine blk_alloc ?_ _)); exact BK234.out) hg (Kd.R_away HO239.out (fun _ hk => hk.2.2)))
                                      have n4_ := Aside0.mk (hb)
                                      have n5_ := Aside0.mk (ho)
                                      clear HO_5
                                      clear BK223
                                      clear BK226
                                      clear BK234
                                      clear HB
                                      clear HO239
                                      have HO_5 := n0_
                                      have BK223 := n1_
                                      have BK226 := n2_
                                      have BK234 := n3_
                                      have HB := n4_
                                      have HO242 := n5_
                                      clear n0_ n1_ n2_ n3_ n4_ n5_
                                      clear ho hb hg hat
                                      refine hK.out _ _ ⟨(blk_cell BK234.out 0).trans rfl, (blk_cell BK234.out 1).trans rfl, (blk_cell BK234.out 2).trans rfl, (blk_cell BK234.out 3).trans rfl⟩ (fun hHeld => ?_)
                                      clear hK K
                                      refine norm_ (a' := ?_) ?_ ?_
                                      rotate_left
                                      · show Act.put _ (some 87) _ = _
                                        simp only [Act.put, List.setIfInBounds_toArray, List.set_cons_zero, List.set_cons_succ, i64_w, i32_w]
                                        rfl
                                      refine pure_ (i := 9) (N := some 6) (v := ?_) (a' := ?_) #[true, true, true, true, true, true, true, true, true, true] rfl rfl (any_of HT_.out (by kernel_rfl)) (fun _ _ _ h => h) (Or.inl ⟨by rfl, ?_⟩) ?_ ?_
                                      rotate_left
                                      · intro w'
                                        go_simp
                                        with_reducible rfl
                                      rotate_left
                                      · simp only [Act.put, List.setIfInBounds_toArray, List.set_cons_zero, List.set_cons_succ, i64_w, i32_w]
                                        rfl
                                      refine done_ (done_of HT_.out (by kernel_rfl)) ?_
                                      have hnb83 := NB234_223.out
                                      have hnc83 := NB223_234.out
                                      have hnb84 := NB234_226.out
                                      have hnc84 := NB226_234.out
                                      have hcz85_0 : w82.cell? ⟨gb234, 0, none⟩ = some (.bool (decide (((rd_T55 l0 x16_1).f0) ≥ 19))) := (blk_cell BK234.out 0).trans rfl
                                      have hcz85_1 : w82.cell? ⟨gb234, 1, none⟩ = some (.bool x235001_3) := (blk_cell BK234.out 1).trans rfl
                                      have hcz85_2 : w82.cell? ⟨gb234, 2, none⟩ = some (.int .i64 x235002_3) := (blk_cell BK234.out 2).trans rfl
                                      have hcz85_3 : w82.cell? ⟨gb234, 3, none⟩ = some (.int .i64 x235003_3) := (blk_cell BK234.out 3).trans rfl
                                      have hfz85_0 := blk_frozen BK234.out 0
                                      have hfz85_1 := blk_frozen BK234.out 1
                                      have hfz85_2 := blk_frozen BK234.out 2
                                      have hfz85_3 := blk_frozen BK234.out 3
                                      try go_wp2_with (first | ((with_reducible refine gate_builtin (b := .append) (xs := #[.tmp 88, .tmp 90]) rfl ?_); (try (refine gate_guard (by rfl) ?_; dsimp only)); at_builtin; refine Kd.R_append k137 (w0 := w) w.heap.size rfl (.tmp 88) (.tmp 90) 135 137 (.agg #[(.bool false), (.bool false), (.int .i64 0), (.int .i64 0)]) 24 rfl Tryd.underlying135 info137 rfl (by decide) (by omega) u5 x5_1 (⟨(decide (((rd_T55 l0 x16_1).f0) ≥ 19)), x235001_3, x235002_3, x235003_3⟩ : S137) [.bool (decide (((rd_T55 l0 x16_1).f0) ≥ 19)), .bool x235001_3, .int .i64 x235002_3, .int .i64 x235003_3] (fun k_ => some k_ ≠ (v241 : Value).ownBlock ∧ k_ ≠ gb223 ∧ k_ ≠ gb234) (fun _ => False) rfl rfl ?aP (fun _ hk => hk.elim) ?aF ?aO ?aB ?aS ?aL ?_; (case aP => exact k137_mkM _ _ _ (⟨(decide (((rd_T55 l0 x16_1).f0) ≥ 19)), x235001_3, x235002_3, x235003_3⟩ : S137)); (case aB => exact (by repeat (first | (with_reducible first | exact HB.out | apply below_alloc | apply pw_below_drewN | apply below_drew1 | refine below_set ?_ GE223.out | refine below_set ?_ GE226.out | refine below_set ?_ GE234.out) | exact HB.out))); (case aF => exact (fun k_ hk => ⟨Kd.fresh' (Kd.R_lt (by (with_reducible repeat (first | apply Kd.R_alloc | apply Kd.R_drewN | apply Kd.R_drew)); exact HO242.out)) k_ hk, Kd.freshB (g := gb223) (o := .cells #[.bool x224000_1, .bool x224001_1, .int .i64 x224002_1, .int .i64 x224003_1] 137 (0, 0)) (by (with_reducible repeat (first | refine blk_drewN ?_ _ | refine blk_drew ?_ | refine blk_alloc ?_ _)); exact BK223.out) k_ hk, Kd.freshB (g := gb234) (o := .cells #[.bool (decide (((rd_T55 l0 x16_1).f0) ≥ 19)), .bool x235001_3, .int .i64 x235002_3, .int .i64 x235003_3] 137 (0, 0)) (by (with_reducible repeat (first | refine blk_drewN ?_ _ | refine blk_drew ?_ | refine blk_alloc ?_ _)); exact BK234.out) k_ hk⟩)); (case aO => exact (by (with_reducible repeat (first | apply Kd.R_alloc | apply Kd.R_drewN | apply Kd.R_drew)); exact Kd.R_mono HO_5.out (fun _ hk => ⟨hk.2, ⟨hk.1.1, hk.1.2⟩⟩))); (case aS => exact (below_size (by repeat (first | (with_reducible first | exact HB.out | apply below_alloc | apply pw_below_drewN | apply below_drew1 | refine below_set ?_ GE223.out | refine below_set ?_ GE226.out | refine below_set ?_ GE234.out) | exact HB.out)))); (case aL => have := LMc79.out; omega); intro v244 w86 ho hb hg hat; rw [← Ny243.out] at ho; have n0_ := Aside0.mk (blk_grown (g := gb223) (o := .cells #[.bool x224000_1, .bool x224001_1, .int .i64 x224002_1, .int .i64 x224003_1] 137 (0, 0)) (by (with_reducible repeat (first | refine blk_drewN ?_ _ | refine blk_drew ?_ | refine blk_alloc ?_ _)); exact BK223.out) hg (Kd.R_away HO_5.out (fun _ hk => hk.1.1))); have n1_ := Aside0.mk (blk_grown (g := gb226) (o := .cells #[.int .u8 ((rd_T55 l0 x16_1).f0), .int .u8 ((rd_T55 l0 x16_1).f1)] 55 (0, 0)) (by (with_reducible repeat (first | refine blk_drewN ?_ _ | refine blk_drew ?_ | refine blk_alloc ?_ _)); exact BK226.out) hg (Kd.R_ne HO_5.out BK226.out (by decide))); have n2_ := Aside0.mk (blk_grown (g := gb234) (o := .cells #[.bool (decide (((rd_T55 l0 x16_1).f0) ≥ 19)), .bool x235001_3, .int .i64 x235002_3, .int .i64 x235003_3] 137 (0, 0)) (by (with_reducible repeat (first | refine blk_drewN ?_ _ | refine blk_drew ?_ | refine blk_alloc ?_ _)); exact BK234.out) hg (Kd.R_away HO_5.out (fun _ hk => hk.1.2))); have n3_ := Aside0.mk (Kd.R_after (ok := (fun k_ => k_ ≠ gb223 ∧ k_ ≠ gb234)) (by (with_reducible repeat (first | apply Kd.R_alloc | apply Kd.R_drewN | apply Kd.R_drew)); exact Kd.R_mono HO242.out (fun _ hk => ⟨⟨hk.2.1, hk.2.2⟩, hk.1⟩)) hg hat); have n4_ := Aside0.mk (hb); have n5_ := Aside0.mk (ho); clear BK223; clear BK226; clear BK234; clear HO242; clear HB; clear HO_5; have BK223 := n0_; have BK226 := n1_; have BK234 := n2_; have HO242 := n3_; have HB := n4_; have HO245 := n5_; clear n0_ n1_ n2_ n3_ n4_ n5_; clear ho hb hg hat))
                                      go_roundg k3
                                      case measure => have := HK1.out; have := HJ6.out; have := HK3.out; omega
                                      case rel => exact ⟨(y243), (y240), (wrap64 (x16_1 + 1)), (x224000_1), (x224001_1), (x224002_1), (x224003_1), (by first | rfl | (simp; done) | (simp [*]; done)), H', ⟨by have := HK1.out; have := HJ6.out; have := HK3.out; omega⟩, ⟨by (with_reducible repeat (first | apply Kd.R_alloc | apply Kd.R_drewN | apply Kd.R_drew)); exact Kd.R_mono HO245.out (fun _ hk => ⟨hk.1, hk.2.1⟩)⟩, ⟨by (with_reducible repeat (first | apply Kd.R_alloc | apply Kd.R_drewN | apply Kd.R_drew)); exact Kd.R_mono HO242.out (fun _ hk => ⟨hk.2, hk.1.1⟩)⟩, ⟨by (with_reducible repeat (first | refine blk_drewN ?_ _ | refine blk_drew ?_ | refine blk_alloc ?_ _)); exact BK223.out⟩, ⟨by repeat (first | (with_reducible first | exact HB.out | apply below_alloc | apply pw_below_drewN | apply below_drew1 | refine below_set ?_ GE223.out | refine below_set ?_ GE226.out | refine below_set ?_ GE234.out) | exact HB.out)⟩⟩
                                    · rw [if_neg c79] at H
                                      exact absurd H (by simp)
                                  · rw [if_neg c78] at H
                                    exact absurd H (by simp)
                                · rw [if_neg c77] at H
                                  exact absurd H (by simp)
                              · rw [if_neg c76] at H
                                exact absurd H (by simp)
                            · rw [if_pos c35] at H
                              have c35b0 : decide (x54_3 < (y228.length : Int)) = true := decide_eq_true c35
                              clear c35
                              by_cases c36 : 0 ≤ x54_3
                              · rw [if_pos c36] at H
                                have c36b0 : decide (0 ≤ x54_3) = true := decide_eq_true c36
                                clear c36
                                by_cases c37 : x54_3 < (y228.length : Int)
                                · rw [if_pos c37] at H
                                  have c37b0 : decide (x54_3 < (y228.length : Int)) = true := decide_eq_true c37
                                  clear c37
                                  by_cases c38 : x235001_3 = true
                                  · subst c38
                                    have H1 : (if x54_3 = 0 then (term_read.l1 k3 x5_1 x6_1 t227 l0 (l0.length : Int) x16_1 y228 (y228.length : Int) (wrap64 (x54_3 + 1)) (decide (((rd_T55 l0 x16_1).f0) ≥ 19)) ((rd_T137 y228 x54_3).f1) (mx x235002_3 (wrap64 (((rd_T137 y228 x54_3).f2) + 1))) ((rd_T137 y228 x54_3).f3)) else (term_read.l1 k3 x5_1 x6_1 t227 l0 (l0.length : Int) x16_1 y228 (y228.length : Int) (wrap64 (x54_3 + 1)) (decide (((rd_T55 l0 x16_1).f0) ≥ 19)) ((rd_T137 y228 x54_3).f1) (mx x235002_3 (wrap64 (((rd_T137 y228 x54_3).f2) + 1))) x235003_3)) = some (r1, r2, r3, r4, r5, r6) := by rw [if_pos rfl] at H; exact H
                                    clear H
                                    have H := H1
                                    clear H1
                                    obtain ⟨ji39, hji39⟩ : ∃ j_ : Int, (mx x235002_3 (wrap64 (((rd_T137 y228 x54_3).f2) + 1))) = j_ := ⟨_, rfl⟩
                                    replace H : (if x54_3 = 0 then (term_read.l1 k3 x5_1 x6_1 t227 l0 (l0.length : Int) x16_1 y228 (y228.length : Int) (wrap64 (x54_3 + 1)) (decide (((rd_T55 l0 x16_1).f0) ≥ 19)) ((rd_T137 y228 x54_3).f1) ji39 ((rd_T137 y228 x54_3).f3)) else (term_read.l1 k3 x5_1 x6_1 t227 l0 (l0.length : Int) x16_1 y228 (y228.length : Int) (wrap64 (x54_3 + 1)) (decide (((rd_T55 l0 x16_1).f0) ≥ 19)) ((rd_T137 y228 x54_3).f1) ji39 x235003_3)) = some (r1, r2, r3, r4, r5, r6) := by first | (rw [hji39] at H; exact H) | (simp only [hji39] at H ⊢; exact H)
                                    have hji39_ : (if x235002_3 < (wrap64 (((rd_T137 y228 x54_3).f2) + 1)) then (wrap64 (((rd_T137 y228 x54_3).f2) + 1)) else x235002_3) = ji39 := hji39
                                    by_cases c40 : x54_3 = 0
                                    · rw [if_pos c40] at H
                                      have c40b0 : (x54_3 == 0) = true := beq_iff_eq.mpr c40
                                      have c40b1 : (x54_3 != 0) = false := bne_eq_false_iff_eq.mpr c40
                                      clear c40
                                      have H' := Aside0.mk H
                                      clear H
                                      have p235 : 0 ≤ (x54_3 : Int) := of_decide_eq_true (by first | (with_reducible assumption) | assumption)
                                      have q235 : x54_3 < (y228.length : Int) := of_decide_eq_true (by first | (with_reducible assumption) | assumption)
                                      have HR231 : Aside0 (Kd.C k137 wr A24 y228.length y228) := ⟨by have h_ := Kd.C_drop (m := ((ji17) : Int).toNat) (c := co23) (Kd.R_reads' HO_6.out).2.2 KL24.out (Kd.R_reads' HO_6.out).2.1; rw [show (x6_1).drop ((ji17) : Int).toNat = y228 from Ny228.out.symm] at h_; rw [KA24.out]; exact h_⟩
                                      obtain ⟨ad235, e235, hx235_0, hx235_1, hx235_2, hx235_3⟩ := at_T137 HR231.out x54_3 p235 q235
                                      cases e235
                                      replace p235 := eq_true p235
                                      replace q235 := eq_true q235
                                      go_wp2_with (first | ((with_reducible refine gate_dst (N := 13) rfl ?_); (try (refine gate_guard (by rfl) ?_; dsimp only)); refine box_event ?hg (N := 13) ?hd (cs := #[.bool false, .bool false, .int .i64 0, .int .i64 0]) (t := 137) ?hr ?_; (case hd => rfl); (case hg => rfl); (case hr => first | (go_simp; done) | (go_simp; rfl)); intro gb236 hg w41 hbox hb; have n0_ := Aside0.mk (Kd.R_below (Kd.R_elderB (by (with_reducible repeat (first | apply Kd.R_alloc | apply Kd.R_drewN | apply Kd.R_drew)); exact HO_5.out) gb236 (Nat.le_of_eq hg.symm)) hb); have n1_ := Aside0.mk (Kd.R_below (Kd.R_elderB (by (with_reducible repeat (first | apply Kd.R_alloc | apply Kd.R_drewN | apply Kd.R_drew)); exact HO_6.out) gb236 (Nat.le_of_eq hg.symm)) hb); have n2_ := Aside0.mk (blk_below (g := gb223) (o := .cells #[.bool x224000_1, .bool x224001_1, .int .i64 x224002_1, .int .i64 x224003_1] 137 (0, 0)) (by (with_reducible repeat (first | refine blk_drewN ?_ _ | refine blk_drew ?_ | refine blk_alloc ?_ _)); exact BK223.out) hb); have n3_ := Aside0.mk (blk_below (g := gb226) (o := .cells #[.int .u8 ((rd_T55 l0 x16_1).f0), .int .u8 ((rd_T55 l0 x16_1).f1)] 55 (0, 0)) (by (with_reducible repeat (first | refine blk_drewN ?_ _ | refine blk_drew ?_ | refine blk_alloc ?_ _)); exact BK226.out) hb); have n4_ := Aside0.mk (blk_below (g := gb234) (o := .cells #[.bool (decide (((rd_T55 l0 x16_1).f0) ≥ 19)), .bool true, .int .i64 x235002_3, .int .i64 x235003_3] 137 (0, 0)) (by (with_reducible repeat (first | refine blk_drewN ?_ _ | refine blk_drew ?_ | refine blk_alloc ?_ _)); exact BK234.out) hb); have n5_ := Aside0.mk (below_step (by repeat (first | (with_reducible first | exact HB.out | apply below_alloc | apply pw_below_drewN | apply below_drew1 | refine below_set ?_ GE223.out | refine below_set ?_ GE226.out | refine below_set ?_ GE234.out) | exact HB.out)) hb); have n6_ := Aside0.mk (hbox); have n7_ := Aside0.mk ((by rw [hg]; exact (below_size (by repeat (first | (with_reducible first | exact HB.out | apply below_alloc | apply pw_below_drewN | apply below_drew1 | refine below_set ?_ GE223.out | refine below_set ?_ GE226.out | refine below_set ?_ GE234.out) | exact HB.out))) : w.heap.size ≤ gb236)); have n8_ := Aside0.mk ((by rw [hg]; exact (below_size (by repeat (first | (with_reducible first | exact HB.out | apply below_alloc | apply pw_below_drewN | apply below_drew1 | refine below_set ?_ GE223.out | refine below_set ?_ GE226.out | refine below_set ?_ GE234.out) | exact HB.out))) : w.heap.size ≤ gb236)); have n9_ := Aside0.mk ((by rw [hg]; exact Nat.ne_of_lt (blk_lt (g := gb223) (o := .cells #[.bool x224000_1, .bool x224001_1, .int .i64 x224002_1, .int .i64 x224003_1] 137 (0, 0)) (by (with_reducible repeat (first | refine blk_drewN ?_ _ | refine blk_drew ?_ | refine blk_alloc ?_ _)); exact BK223.out)) : gb223 ≠ gb236)); have n10_ := Aside0.mk ((by rw [hg]; exact Nat.ne_of_gt (blk_lt (g := gb223) (o := .cells #[.bool x224000_1, .bool x224001_1, .int .i64 x224002_1, .int .i64 x224003_1] 137 (0, 0)) (by (with_reducible repeat (first | refine blk_drewN ?_ _ | refine blk_drew ?_ | refine blk_alloc ?_ _)); exact BK223.out)) : gb236 ≠ gb223)); have n11_ := Aside0.mk ((by rw [hg]; exact Nat.ne_of_lt (blk_lt (g := gb226) (o := .cells #[.int .u8 ((rd_T55 l0 x16_1).f0), .int .u8 ((rd_T55 l0 x16_1).f1)] 55 (0, 0)) (by (with_reducible repeat (first | refine blk_drewN ?_ _ | refine blk_drew ?_ | refine blk_alloc ?_ _)); exact BK226.out)) : gb226 ≠ gb236)); have n12_ := Aside0.mk ((by rw [hg]; exact Nat.ne_of_gt (blk_lt (g := gb226) (o := .cells #[.int .u8 ((rd_T55 l0 x16_1).f0), .int .u8 ((rd_T55 l0 x16_1).f1)] 55 (0, 0)) (by (with_reducible repeat (first | refine blk_drewN ?_ _ | refine blk_drew ?_ | refine blk_alloc ?_ _)); exact BK226.out)) : gb236 ≠ gb226)); have n13_ := Aside0.mk ((by rw [hg]; exact Nat.ne_of_lt (blk_lt (g := gb234) (o := .cells #[.bool (decide (((rd_T55 l0 x16_1).f0) ≥ 19)), .bool true, .int .i64 x235002_3, .int .i64 x235003_3] 137 (0, 0)) (by (with_reducible repeat (first | refine blk_drewN ?_ _ | refine blk_drew ?_ | refine blk_alloc ?_ _)); exact BK234.out)) : gb234 ≠ gb236)); have n14_ := Aside0.mk ((by rw [hg]; exact Nat.ne_of_gt (blk_lt (g := gb234) (o := .cells #[.bool (decide (((rd_T55 l0 x16_1).f0) ≥ 19)), .bool true, .int .i64 x235002_3, .int .i64 x235003_3] 137 (0, 0)) (by (with_reducible repeat (first | refine blk_drewN ?_ _ | refine blk_drew ?_ | refine blk_alloc ?_ _)); exact BK234.out)) : gb236 ≠ gb234)); clear HO_5; clear HO_6; clear BK223; clear BK226; clear BK234; clear HB; have HO_5 := n0_; have HO_6 := n1_; have BK223 := n2_; have BK226 := n3_; have BK234 := n4_; have HB := n5_; have BK236 := n6_; have GW236 := n7_; have GE236 := n8_; have NB223_236 := n9_; have NB236_223 := n10_; have NB226_236 := n11_; have NB236_226 := n12_; have NB234_236 := n13_; have NB236_234 := n14_; clear n0_ n1_ n2_ n3_ n4_ n5_ n6_ n7_ n8_ n9_ n10_ n11_ n12_ n13_ n14_; clear hb hbox hg; have hnb42 := NB236_223.out; have hnc42 := NB223_236.out; have hnb43 := NB236_226.out; have hnc43 := NB226_236.out; have hnb44 := NB236_234.out; have hnc44 := NB234_236.out; have hcz45_0 : w41.cell? ⟨gb236, 0, none⟩ = some (.bool false) := (blk_cell BK236.out 0).trans rfl; have hcz45_1 : w41.cell? ⟨gb236, 1, none⟩ = some (.bool false) := (blk_cell BK236.out 1).trans rfl; have hcz45_2 : w41.cell? ⟨gb236, 2, none⟩ = some (.int .i64 0) := (blk_cell BK236.out 2).trans rfl; have hcz45_3 : w41.cell? ⟨gb236, 3, none⟩ = some (.int .i64 0) := (blk_cell BK236.out 3).trans rfl; have hfz45_0 := blk_frozen BK236.out 0; have hfz45_1 := blk_frozen BK236.out 1; have hfz45_2 := blk_frozen BK236.out 2; have hfz45_3 := blk_frozen BK236.out 3; have hnb46 := NB234_223.out; have hnc46 := NB223_234.out; have hnb47 := NB234_226.out; have hnc47 := NB226_234.out; have hcz48_0 : w41.cell? ⟨gb234, 0, none⟩ = some (.bool (decide (((rd_T55 l0 x16_1).f0) ≥ 19))) := (blk_cell BK234.out 0).trans rfl; have hcz48_1 : w41.cell? ⟨gb234, 1, none⟩ = some (.bool true) := (blk_cell BK234.out 1).trans rfl; have hcz48_2 : w41.cell? ⟨gb234, 2, none⟩ = some (.int .i64 x235002_3) := (blk_cell BK234.out 2).trans rfl; have hcz48_3 : w41.cell? ⟨gb234, 3, none⟩ = some (.int .i64 x235003_3) := (blk_cell BK234.out 3).trans rfl; have hfz48_0 := blk_frozen BK234.out 0; have hfz48_1 := blk_frozen BK234.out 1; have hfz48_2 := blk_frozen BK234.out 2; have hfz48_3 := blk_frozen BK234.out 3))
                                      go_roundg k3
                                      case measure => have := HK1.out; have := HJ6.out; have := HK3.out; omega
                                      case rel => exact ⟨(wrap64 (x54_3 + 1)), ((rd_T137 y228 x54_3).f1), (ji39), ((rd_T137 y228 x54_3).f3), (by first | rfl | (simp; done) | (simp [*]; done)), H', ⟨by have := HK1.out; have := HJ6.out; have := HK3.out; omega⟩, ⟨by (with_reducible repeat (first | apply Kd.R_alloc | apply Kd.R_drewN | apply Kd.R_drew)); exact Kd.R_mono (Kd.R_far (p := ⟨gb234, 3, none⟩) (Kd.R_far (p := ⟨gb234, 2, none⟩) (Kd.R_far (p := ⟨gb234, 1, none⟩) (Kd.R_far (p := ⟨gb236, 3, none⟩) (Kd.R_far (p := ⟨gb236, 2, none⟩) (Kd.R_far (p := ⟨gb236, 1, none⟩) (Kd.R_far (p := ⟨gb236, 0, none⟩) (Kd.R_mono (Kd.R_mono HO_5.out (fun k_ hk => (⟨hk, hk.2⟩ : _ ∧ k_ ≠ gb236))) (fun k_ hk => (⟨hk, hk.1.1.2.2⟩ : _ ∧ k_ ≠ gb234))) (fun _ hk => hk.1.2) (.bool ((rd_T137 y228 x54_3).f0))) (fun _ hk => hk.1.2) (.bool ((rd_T137 y228 x54_3).f1))) (fun _ hk => hk.1.2) (.int .i64 ((rd_T137 y228 x54_3).f2))) (fun _ hk => hk.1.2) (.int .i64 ((rd_T137 y228 x54_3).f3))) (fun _ hk => hk.2) (.bool ((rd_T137 y228 x54_3).f1))) (fun _ hk => hk.2) (.int .i64 ji39)) (fun _ hk => hk.2) (.int .i64 ((rd_T137 y228 x54_3).f3))) (fun _ hk => ⟨hk.1.1.1.1, ⟨hk.1.1.1.2.1, hk.1.1.1.2.2⟩⟩)⟩, ⟨by (with_reducible repeat (first | apply Kd.R_alloc | apply Kd.R_drewN | apply Kd.R_drew)); exact Kd.R_mono (Kd.R_far (p := ⟨gb234, 3, none⟩) (Kd.R_far (p := ⟨gb234, 2, none⟩) (Kd.R_far (p := ⟨gb234, 1, none⟩) (Kd.R_far (p := ⟨gb236, 3, none⟩) (Kd.R_far (p := ⟨gb236, 2, none⟩) (Kd.R_far (p := ⟨gb236, 1, none⟩) (Kd.R_far (p := ⟨gb236, 0, none⟩) (Kd.R_mono (Kd.R_mono HO_6.out (fun k_ hk => (⟨hk, hk.2⟩ : _ ∧ k_ ≠ gb236))) (fun k_ hk => (⟨hk, hk.1.1.2.2⟩ : _ ∧ k_ ≠ gb234))) (fun _ hk => hk.1.2) (.bool ((rd_T137 y228 x54_3).f0))) (fun _ hk => hk.1.2) (.bool ((rd_T137 y228 x54_3).f1))) (fun _ hk => hk.1.2) (.int .i64 ((rd_T137 y228 x54_3).f2))) (fun _ hk => hk.1.2) (.int .i64 ((rd_T137 y228 x54_3).f3))) (fun _ hk => hk.2) (.bool ((rd_T137 y228 x54_3).f1))) (fun _ hk => hk.2) (.int .i64 ji39)) (fun _ hk => hk.2) (.int .i64 ((rd_T137 y228 x54_3).f3))) (fun _ hk => ⟨hk.1.1.1.1, ⟨hk.1.1.1.2.1, hk.1.1.1.2.2⟩⟩)⟩, ⟨by (with_reducible repeat (first | refine blk_drewN ?_ _ | refine blk_drew ?_ | refine blk_alloc ?_ _)); refine blk_far ?_ NB223_234.out _; (with_reducible repeat (first | refine blk_drewN ?_ _ | refine blk_drew ?_ | refine blk_alloc ?_ _)); refine blk_far ?_ NB223_234.out _; (with_reducible repeat (first | refine blk_drewN ?_ _ | refine blk_drew ?_ | refine blk_alloc ?_ _)); refine blk_far ?_ NB223_234.out _; (with_reducible repeat (first | refine blk_drewN ?_ _ | refine blk_drew ?_ | refine blk_alloc ?_ _)); refine blk_far ?_ NB223_236.out _; (with_reducible repeat (first | refine blk_drewN ?_ _ | refine blk_drew ?_ | refine blk_alloc ?_ _)); refine blk_far ?_ NB223_236.out _; (with_reducible repeat (first | refine blk_drewN ?_ _ | refine blk_drew ?_ | refine blk_alloc ?_ _)); refine blk_far ?_ NB223_236.out _; (with_reducible repeat (first | refine blk_drewN ?_ _ | refine blk_drew ?_ | refine blk_alloc ?_ _)); refine blk_far ?_ NB223_236.out _; (with_reducible repeat (first | refine blk_drewN ?_ _ | refine blk_drew ?_ | refine blk_alloc ?_ _)); exact BK223.out⟩, ⟨by (with_reducible repeat (first | refine blk_drewN ?_ _ | refine blk_drew ?_ | refine blk_alloc ?_ _)); refine blk_far ?_ NB226_234.out _; (with_reducible repeat (first | refine blk_drewN ?_ _ | refine blk_drew ?_ | refine blk_alloc ?_ _)); refine blk_far ?_ NB226_234.out _; (with_reducible repeat (first | refine blk_drewN ?_ _ | refine blk_drew ?_ | refine blk_alloc ?_ _)); refine blk_far ?_ NB226_234.out _; (with_reducible repeat (first | refine blk_drewN ?_ _ | refine blk_drew ?_ | refine blk_alloc ?_ _)); refine blk_far ?_ NB226_236.out _; (with_reducible repeat (first | refine blk_drewN ?_ _ | refine blk_drew ?_ | refine blk_alloc ?_ _)); refine blk_far ?_ NB226_236.out _; (with_reducible repeat (first | refine blk_drewN ?_ _ | refine blk_drew ?_ | refine blk_alloc ?_ _)); refine blk_far ?_ NB226_236.out _; (with_reducible repeat (first | refine blk_drewN ?_ _ | refine blk_drew ?_ | refine blk_alloc ?_ _)); refine blk_far ?_ NB226_236.out _; (with_reducible repeat (first | refine blk_drewN ?_ _ | refine blk_drew ?_ | refine blk_alloc ?_ _)); exact BK226.out⟩, ⟨by (with_reducible repeat (first | refine blk_drewN ?_ _ | refine blk_drew ?_ | refine blk_alloc ?_ _)); refine blk_put (cs := #[.bool (decide (((rd_T55 l0 x16_1).f0) ≥ 19)), .bool ((rd_T137 y228 x54_3).f1), .int .i64 ji39, .int .i64 x235003_3]) ?_ 3 _ rfl; (with_reducible repeat (first | refine blk_drewN ?_ _ | refine blk_drew ?_ | refine blk_alloc ?_ _)); refine blk_put (cs := #[.bool (decide (((rd_T55 l0 x16_1).f0) ≥ 19)), .bool ((rd_T137 y228 x54_3).f1), .int .i64 x235002_3, .int .i64 x235003_3]) ?_ 2 _ rfl; (with_reducible repeat (first | refine blk_drewN ?_ _ | refine blk_drew ?_ | refine blk_alloc ?_ _)); refine blk_put (cs := #[.bool (decide (((rd_T55 l0 x16_1).f0) ≥ 19)), .bool true, .int .i64 x235002_3, .int .i64 x235003_3]) ?_ 1 _ rfl; (with_reducible repeat (first | refine blk_drewN ?_ _ | refine blk_drew ?_ | refine blk_alloc ?_ _)); refine blk_far ?_ NB234_236.out _; (with_reducible repeat (first | refine blk_drewN ?_ _ | refine blk_drew ?_ | refine blk_alloc ?_ _)); refine blk_far ?_ NB234_236.out _; (with_reducible repeat (first | refine blk_drewN ?_ _ | refine blk_drew ?_ | refine blk_alloc ?_ _)); refine blk_far ?_ NB234_236.out _; (with_reducible repeat (first | refine blk_drewN ?_ _ | refine blk_drew ?_ | refine blk_alloc ?_ _)); refine blk_far ?_ NB234_236.out _; (with_reducible repeat (first | refine blk_drewN ?_ _ | refine blk_drew ?_ | refine blk_alloc ?_ _)); exact BK234.out⟩, ⟨by repeat (first | (with_reducible first | exact HB.out | apply below_alloc | apply pw_below_drewN | apply below_drew1 | refine below_set ?_ GE223.out | refine below_set ?_ GE226.out | refine below_set ?_ GE234.out | refine below_set ?_ GE236.out) | exact HB.out)⟩⟩
                                    · rw [if_neg c40] at H
                                      have c40b0 : (x54_3 == 0) = false := beq_eq_false_iff_ne.mpr c40
                                      have c40b1 : (x54_3 != 0) = true := bne_iff_ne.mpr c40
                                      have H' := Aside0.mk H
                                      clear H
                                      have p235 : 0 ≤ (x54_3 : Int) := of_decide_eq_true (by first | (with_reducible assumption) | assumption)
                                      have q235 : x54_3 < (y228.length : Int) := of_decide_eq_true (by first | (with_reducible assumption) | assumption)
                                      have HR231 : Aside0 (Kd.C k137 wr A24 y228.length y228) := ⟨by have h_ := Kd.C_drop (m := ((ji17) : Int).toNat) (c := co23) (Kd.R_reads' HO_6.out).2.2 KL24.out (Kd.R_reads' HO_6.out).2.1; rw [show (x6_1).drop ((ji17) : Int).toNat = y228 from Ny228.out.symm] at h_; rw [KA24.out]; exact h_⟩
                                      obtain ⟨ad235, e235, hx235_0, hx235_1, hx235_2, hx235_3⟩ := at_T137 HR231.out x54_3 p235 q235
                                      cases e235
                                      replace p235 := eq_true p235
                                      replace q235 := eq_true q235
                                      go_wp2_with (first | ((with_reducible refine gate_dst (N := 13) rfl ?_); (try (refine gate_guard (by rfl) ?_; dsimp only)); refine box_event ?hg (N := 13) ?hd (cs := #[.bool false, .bool false, .int .i64 0, .int .i64 0]) (t := 137) ?hr ?_; (case hd => rfl); (case hg => rfl); (case hr => first | (go_simp; done) | (go_simp; rfl)); intro gb236 hg w49 hbox hb; have n0_ := Aside0.mk (Kd.R_below (Kd.R_elderB (by (with_reducible repeat (first | apply Kd.R_alloc | apply Kd.R_drewN | apply Kd.R_drew)); exact HO_5.out) gb236 (Nat.le_of_eq hg.symm)) hb); have n1_ := Aside0.mk (Kd.R_below (Kd.R_elderB (by (with_reducible repeat (first | apply Kd.R_alloc | apply Kd.R_drewN | apply Kd.R_drew)); exact HO_6.out) gb236 (Nat.le_of_eq hg.symm)) hb); have n2_ := Aside0.mk (blk_below (g := gb223) (o := .cells #[.bool x224000_1, .bool x224001_1, .int .i64 x224002_1, .int .i64 x224003_1] 137 (0, 0)) (by (with_reducible repeat (first | refine blk_drewN ?_ _ | refine blk_drew ?_ | refine blk_alloc ?_ _)); exact BK223.out) hb); have n3_ := Aside0.mk (blk_below (g := gb226) (o := .cells #[.int .u8 ((rd_T55 l0 x16_1).f0), .int .u8 ((rd_T55 l0 x16_1).f1)] 55 (0, 0)) (by (with_reducible repeat (first | refine blk_drewN ?_ _ | refine blk_drew ?_ | refine blk_alloc ?_ _)); exact BK226.out) hb); have n4_ := Aside0.mk (blk_below (g := gb234) (o := .cells #[.bool (decide (((rd_T55 l0 x16_1).f0) ≥ 19)), .bool true, .int .i64 x235002_3, .int .i64 x235003_3] 137 (0, 0)) (by (with_reducible repeat (first | refine blk_drewN ?_ _ | refine blk_drew ?_ | refine blk_alloc ?_ _)); exact BK234.out) hb); have n5_ := Aside0.mk (below_step (by repeat (first | (with_reducible first | exact HB.out | apply below_alloc | apply pw_below_drewN | apply below_drew1 | refine below_set ?_ GE223.out | refine below_set ?_ GE226.out | refine below_set ?_ GE234.out) | exact HB.out)) hb); have n6_ := Aside0.mk (hbox); have n7_ := Aside0.mk ((by rw [hg]; exact (below_size (by repeat (first | (with_reducible first | exact HB.out | apply below_alloc | apply pw_below_drewN | apply below_drew1 | refine below_set ?_ GE223.out | refine below_set ?_ GE226.out | refine below_set ?_ GE234.out) | exact HB.out))) : w.heap.size ≤ gb236)); have n8_ := Aside0.mk ((by rw [hg]; exact (below_size (by repeat (first | (with_reducible first | exact HB.out | apply below_alloc | apply pw_below_drewN | apply below_drew1 | refine below_set ?_ GE223.out | refine below_set ?_ GE226.out | refine below_set ?_ GE234.out) | exact HB.out))) : w.heap.size ≤ gb236)); have n9_ := Aside0.mk ((by rw [hg]; exact Nat.ne_of_lt (blk_lt (g := gb223) (o := .cells #[.bool x224000_1, .bool x224001_1, .int .i64 x224002_1, .int .i64 x224003_1] 137 (0, 0)) (by (with_reducible repeat (first | refine blk_drewN ?_ _ | refine blk_drew ?_ | refine blk_alloc ?_ _)); exact BK223.out)) : gb223 ≠ gb236)); have n10_ := Aside0.mk ((by rw [hg]; exact Nat.ne_of_gt (blk_lt (g := gb223) (o := .cells #[.bool x224000_1, .bool x224001_1, .int .i64 x224002_1, .int .i64 x224003_1] 137 (0, 0)) (by (with_reducible repeat (first | refine blk_drewN ?_ _ | refine blk_drew ?_ | refine blk_alloc ?_ _)); exact BK223.out)) : gb236 ≠ gb223)); have n11_ := Aside0.mk ((by rw [hg]; exact Nat.ne_of_lt (blk_lt (g := gb226) (o := .cells #[.int .u8 ((rd_T55 l0 x16_1).f0), .int .u8 ((rd_T55 l0 x16_1).f1)] 55 (0, 0)) (by (with_reducible repeat (first | refine blk_drewN ?_ _ | refine blk_drew ?_ | refine blk_alloc ?_ _)); exact BK226.out)) : gb226 ≠ gb236)); have n12_ := Aside0.mk ((by rw [hg]; exact Nat.ne_of_gt (blk_lt (g := gb226) (o := .cells #[.int .u8 ((rd_T55 l0 x16_1).f0), .int .u8 ((rd_T55 l0 x16_1).f1)] 55 (0, 0)) (by (with_reducible repeat (first | refine blk_drewN ?_ _ | refine blk_drew ?_ | refine blk_alloc ?_ _)); exact BK226.out)) : gb236 ≠ gb226)); have n13_ := Aside0.mk ((by rw [hg]; exact Nat.ne_of_lt (blk_lt (g := gb234) (o := .cells #[.bool (decide (((rd_T55 l0 x16_1).f0) ≥ 19)), .bool true, .int .i64 x235002_3, .int .i64 x235003_3] 137 (0, 0)) (by (with_reducible repeat (first | refine blk_drewN ?_ _ | refine blk_drew ?_ | refine blk_alloc ?_ _)); exact BK234.out)) : gb234 ≠ gb236)); have n14_ := Aside0.mk ((by rw [hg]; exact Nat.ne_of_gt (blk_lt (g := gb234) (o := .cells #[.bool (decide (((rd_T55 l0 x16_1).f0) ≥ 19)), .bool true, .int .i64 x235002_3, .int .i64 x235003_3] 137 (0, 0)) (by (with_reducible repeat (first | refine blk_drewN ?_ _ | refine blk_drew ?_ | refine blk_alloc ?_ _)); exact BK234.out)) : gb236 ≠ gb234)); clear HO_5; clear HO_6; clear BK223; clear BK226; clear BK234; clear HB; have HO_5 := n0_; have HO_6 := n1_; have BK223 := n2_; have BK226 := n3_; have BK234 := n4_; have HB := n5_; have BK236 := n6_; have GW236 := n7_; have GE236 := n8_; have NB223_236 := n9_; have NB236_223 := n10_; have NB226_236 := n11_; have NB236_226 := n12_; have NB234_236 := n13_; have NB236_234 := n14_; clear n0_ n1_ n2_ n3_ n4_ n5_ n6_ n7_ n8_ n9_ n10_ n11_ n12_ n13_ n14_; clear hb hbox hg; have hnb50 := NB236_223.out; have hnc50 := NB223_236.out; have hnb51 := NB236_226.out; have hnc51 := NB226_236.out; have hnb52 := NB236_234.out; have hnc52 := NB234_236.out; have hcz53_0 : w49.cell? ⟨gb236, 0, none⟩ = some (.bool false) := (blk_cell BK236.out 0).trans rfl; have hcz53_1 : w49.cell? ⟨gb236, 1, none⟩ = some (.bool false) := (blk_cell BK236.out 1).trans rfl; have hcz53_2 : w49.cell? ⟨gb236, 2, none⟩ = some (.int .i64 0) := (blk_cell BK236.out 2).trans rfl; have hcz53_3 : w49.cell? ⟨gb236, 3, none⟩ = some (.int .i64 0) := (blk_cell BK236.out 3).trans rfl; have hfz53_0 := blk_frozen BK236.out 0; have hfz53_1 := blk_frozen BK236.out 1; have hfz53_2 := blk_frozen BK236.out 2; have hfz53_3 := blk_frozen BK236.out 3; have hnb54 := NB234_223.out; have hnc54 := NB223_234.out; have hnb55 := NB234_226.out; have hnc55 := NB226_234.out; have hcz56_0 : w49.cell? ⟨gb234, 0, none⟩ = some (.bool (decide (((rd_T55 l0 x16_1).f0) ≥ 19))) := (blk_cell BK234.out 0).trans rfl; have hcz56_1 : w49.cell? ⟨gb234, 1, none⟩ = some (.bool true) := (blk_cell BK234.out 1).trans rfl; have hcz56_2 : w49.cell? ⟨gb234, 2, none⟩ = some (.int .i64 x235002_3) := (blk_cell BK234.out 2).trans rfl; have hcz56_3 : w49.cell? ⟨gb234, 3, none⟩ = some (.int .i64 x235003_3) := (blk_cell BK234.out 3).trans rfl; have hfz56_0 := blk_frozen BK234.out 0; have hfz56_1 := blk_frozen BK234.out 1; have hfz56_2 := blk_frozen BK234.out 2; have hfz56_3 := blk_frozen BK234.out 3))
                                      go_roundg k3
                                      case measure => have := HK1.out; have := HJ6.out; have := HK3.out; omega
                                      case rel => exact ⟨(wrap64 (x54_3 + 1)), ((rd_T137 y228 x54_3).f1), (ji39), (x235003_3), (by first | rfl | (simp; done) | (simp [*]; done)), H', ⟨by have := HK1.out; have := HJ6.out; have := HK3.out; omega⟩, ⟨by (with_reducible repeat (first | apply Kd.R_alloc | apply Kd.R_drewN | apply Kd.R_drew)); exact Kd.R_mono (Kd.R_far (p := ⟨gb234, 2, none⟩) (Kd.R_far (p := ⟨gb234, 1, none⟩) (Kd.R_far (p := ⟨gb236, 3, none⟩) (Kd.R_far (p := ⟨gb236, 2, none⟩) (Kd.R_far (p := ⟨gb236, 1, none⟩) (Kd.R_far (p := ⟨gb236, 0, none⟩) (Kd.R_mono (Kd.R_mono HO_5.out (fun k_ hk => (⟨hk, hk.2⟩ : _ ∧ k_ ≠ gb236))) (fun k_ hk => (⟨hk, hk.1.1.2.2⟩ : _ ∧ k_ ≠ gb234))) (fun _ hk => hk.1.2) (.bool ((rd_T137 y228 x54_3).f0))) (fun _ hk => hk.1.2) (.bool ((rd_T137 y228 x54_3).f1))) (fun _ hk => hk.1.2) (.int .i64 ((rd_T137 y228 x54_3).f2))) (fun _ hk => hk.1.2) (.int .i64 ((rd_T137 y228 x54_3).f3))) (fun _ hk => hk.2) (.bool ((rd_T137 y228 x54_3).f1))) (fun _ hk => hk.2) (.int .i64 ji39)) (fun _ hk => ⟨hk.1.1.1.1, ⟨hk.1.1.1.2.1, hk.1.1.1.2.2⟩⟩)⟩, ⟨by (with_reducible repeat (first | apply Kd.R_alloc | apply Kd.R_drewN | apply Kd.R_drew)); exact Kd.R_mono (Kd.R_far (p := ⟨gb234, 2, none⟩) (Kd.R_far (p := ⟨gb234, 1, none⟩) (Kd.R_far (p := ⟨gb236, 3, none⟩) (Kd.R_far (p := ⟨gb236, 2, none⟩) (Kd.R_far (p := ⟨gb236, 1, none⟩) (Kd.R_far (p := ⟨gb236, 0, none⟩) (Kd.R_mono (Kd.R_mono HO_6.out (fun k_ hk => (⟨hk, hk.2⟩ : _ ∧ k_ ≠ gb236))) (fun k_ hk => (⟨hk, hk.1.1.2.2⟩ : _ ∧ k_ ≠ gb234))) (fun _ hk => hk.1.2) (.bool ((rd_T137 y228 x54_3).f0))) (fun _ hk => hk.1.2) (.bool ((rd_T137 y228 x54_3).f1))) (fun _ hk => hk.1.2) (.int .i64 ((rd_T137 y228 x54_3).f2))) (fun _ hk => hk.1.2) (.int .i64 ((rd_T137 y228 x54_3).f3))) (fun _ hk => hk.2) (.bool ((rd_T137 y228 x54_3).f1))) (fun _ hk => hk.2) (.int .i64 ji39)) (fun _ hk => ⟨hk.1.1.1.1, ⟨hk.1.1.1.2.1, hk.1.1.1.2.2⟩⟩)⟩, ⟨by (with_reducible repeat (first | refine blk_drewN ?_ _ | refine blk_drew ?_ | refine blk_alloc ?_ _)); refine blk_far ?_ NB223_234.out _; (with_reducible repeat (first | refine blk_drewN ?_ _ | refine blk_drew ?_ | refine blk_alloc ?_ _)); refine blk_far ?_ NB223_234.out _; (with_reducible repeat (first | refine blk_drewN ?_ _ | refine blk_drew ?_ | refine blk_alloc ?_ _)); refine blk_far ?_ NB223_236.out _; (with_reducible repeat (first | refine blk_drewN ?_ _ | refine blk_drew ?_ | refine blk_alloc ?_ _)); refine blk_far ?_ NB223_236.out _; (with_reducible repeat (first | refine blk_drewN ?_ _ | refine blk_drew ?_ | refine blk_alloc ?_ _)); refine blk_far ?_ NB223_236.out _; (with_reducible repeat (first | refine blk_drewN ?_ _ | refine blk_drew ?_ | refine blk_alloc ?_ _)); refine blk_far ?_ NB223_236.out _; (with_reducible repeat (first | refine blk_drewN ?_ _ | refine blk_drew ?_ | refine blk_alloc ?_ _)); exact BK223.out⟩, ⟨by (with_reducible repeat (first | refine blk_drewN ?_ _ | refine blk_drew ?_ | refine blk_alloc ?_ _)); refine blk_far ?_ NB226_234.out _; (with_reducible repeat (first | refine blk_drewN ?_ _ | refine blk_drew ?_ | refine blk_alloc ?_ _)); refine blk_far ?_ NB226_234.out _; (with_reducible repeat (first | refine blk_drewN ?_ _ | refine blk_drew ?_ | refine blk_alloc ?_ _)); refine blk_far ?_ NB226_236.out _; (with_reducible repeat (first | refine blk_drewN ?_ _ | refine blk_drew ?_ | refine blk_alloc ?_ _)); refine blk_far ?_ NB226_236.out _; (with_reducible repeat (first | refine blk_drewN ?_ _ | refine blk_drew ?_ | refine blk_alloc ?_ _)); refine blk_far ?_ NB226_236.out _; (with_reducible repeat (first | refine blk_drewN ?_ _ | refine blk_drew ?_ | refine blk_alloc ?_ _)); refine blk_far ?_ NB226_236.out _; (with_reducible repeat (first | refine blk_drewN ?_ _ | refine blk_drew ?_ | refine blk_alloc ?_ _)); exact BK226.out⟩, ⟨by (with_reducible repeat (first | refine blk_drewN ?_ _ | refine blk_drew ?_ | refine blk_alloc ?_ _)); refine blk_put (cs := #[.bool (decide (((rd_T55 l0 x16_1).f0) ≥ 19)), .bool ((rd_T137 y228 x54_3).f1), .int .i64 x235002_3, .int .i64 x235003_3]) ?_ 2 _ rfl; (with_reducible repeat (first | refine blk_drewN ?_ _ | refine blk_drew ?_ | refine blk_alloc ?_ _)); refine blk_put (cs := #[.bool (decide (((rd_T55 l0 x16_1).f0) ≥ 19)), .bool true, .int .i64 x235002_3, .int .i64 x235003_3]) ?_ 1 _ rfl; (with_reducible repeat (first | refine blk_drewN ?_ _ | refine blk_drew ?_ | refine blk_alloc ?_ _)); refine blk_far ?_ NB234_236.out _; (with_reducible repeat (first | refine blk_drewN ?_ _ | refine blk_drew ?_ | refine blk_alloc ?_ _)); refine blk_far ?_ NB234_236.out _; (with_reducible repeat (first | refine blk_drewN ?_ _ | refine blk_drew ?_ | refine blk_alloc ?_ _)); refine blk_far ?_ NB234_236.out _; (with_reducible repeat (first | refine blk_drewN ?_ _ | refine blk_drew ?_ | refine blk_alloc ?_ _)); refine blk_far ?_ NB234_236.out _; (with_reducible repeat (first | refine blk_drewN ?_ _ | refine blk_drew ?_ | refine blk_alloc ?_ _)); exact BK234.out⟩, ⟨by repeat (first | (with_reducible first | exact HB.out | apply below_alloc | apply pw_below_drewN | apply below_drew1 | refine below_set ?_ GE223.out | refine below_set ?_ GE226.out | refine below_set ?_ GE234.out | refine below_set ?_ GE236.out) | exact HB.out)⟩⟩
                                  · replace c38 := Bool.eq_false_iff.mpr c38
                                    subst c38
                                    have H1 : (if x54_3 = 0 then (term_read.l1 k3 x5_1 x6_1 t227 l0 (l0.length : Int) x16_1 y228 (y228.length : Int) (wrap64 (x54_3 + 1)) (decide (((rd_T55 l0 x16_1).f0) ≥ 19)) false (mx x235002_3 (wrap64 (((rd_T137 y228 x54_3).f2) + 1))) ((rd_T137 y228 x54_3).f3)) else (term_read.l1 k3 x5_1 x6_1 t227 l0 (l0.length : Int) x16_1 y228 (y228.length : Int) (wrap64 (x54_3 + 1)) (decide (((rd_T55 l0 x16_1).f0) ≥ 19)) false (mx x235002_3 (wrap64 (((rd_T137 y228 x54_3).f2) + 1))) x235003_3)) = some (r1, r2, r3, r4, r5, r6) := by rw [if_neg (show ¬ (false = true) by decide)] at H; exact H
                                    clear H
                                    have H := H1
                                    clear H1
                                    obtain ⟨ji57, hji57⟩ : ∃ j_ : Int, (mx x235002_3 (wrap64 (((rd_T137 y228 x54_3).f2) + 1))) = j_ := ⟨_, rfl⟩
                                    replace H : (if x54_3 = 0 then (term_read.l1 k3 x5_1 x6_1 t227 l0 (l0.length : Int) x16_1 y228 (y228.length : Int) (wrap64 (x54_3 + 1)) (decide (((rd_T55 l0 x16_1).f0) ≥ 19)) false ji57 ((rd_T137 y228 x54_3).f3)) else (term_read.l1 k3 x5_1 x6_1 t227 l0 (l0.length : Int) x16_1 y228 (y228.length : Int) (wrap64 (x54_3 + 1)) (decide (((rd_T55 l0 x16_1).f0) ≥ 19)) false ji57 x235003_3)) = some (r1, r2, r3, r4, r5, r6) := by first | (rw [hji57] at H; exact H) | (simp only [hji57] at H ⊢; exact H)
                                    have hji57_ : (if x235002_3 < (wrap64 (((rd_T137 y228 x54_3).f2) + 1)) then (wrap64 (((rd_T137 y228 x54_3).f2) + 1)) else x235002_3) = ji57 := hji57
                                    by_cases c58 : x54_3 = 0
                                    · rw [if_pos c58] at H
                                      have c58b0 : (x54_3 == 0) = true := beq_iff_eq.mpr c58
                                      have c58b1 : (x54_3 != 0) = false := bne_eq_false_iff_eq.mpr c58
                                      clear c58
                                      have H' := Aside0.mk H
                                      clear H
                                      have p235 : 0 ≤ (x54_3 : Int) := of_decide_eq_true (by first | (with_reducible assumption) | assumption)
                                      have q235 : x54_3 < (y228.length : Int) := of_decide_eq_true (by first | (with_reducible assumption) | assumption)
                                      have HR231 : Aside0 (Kd.C k137 wr A24 y228.length y228) := ⟨by have h_ := Kd.C_drop (m := ((ji17) : Int).toNat) (c := co23) (Kd.R_reads' HO_6.out).2.2 KL24.out (Kd.R_reads' HO_6.out).2.1; rw [show (x6_1).drop ((ji17) : Int).toNat = y228 from Ny228.out.symm] at h_; rw [KA24.out]; exact h_⟩
                                      obtain ⟨ad235, e235, hx235_0, hx235_1, hx235_2, hx235_3⟩ := at_T137 HR231.out x54_3 p235 q235
                                      cases e235
                                      replace p235 := eq_true p235
                                      replace q235 := eq_true q235
                                      go_wp2_with (first | ((with_reducible refine gate_dst (N := 13) rfl ?_); (try (refine gate_guard (by rfl) ?_; dsimp only)); refine box_event ?hg (N := 13) ?hd (cs := #[.bool false, .bool false, .int .i64 0, .int .i64 0]) (t := 137) ?hr ?_; (case hd => rfl); (case hg => rfl); (case hr => first | (go_simp; done) | (go_simp; rfl)); intro gb236 hg w59 hbox hb; have n0_ := Aside0.mk (Kd.R_below (Kd.R_elderB (by (with_reducible repeat (first | apply Kd.R_alloc | apply Kd.R_drewN | apply Kd.R_drew)); exact HO_5.out) gb236 (Nat.le_of_eq hg.symm)) hb); have n1_ := Aside0.mk (Kd.R_below (Kd.R_elderB (by (with_reducible repeat (first | apply Kd.R_alloc | apply Kd.R_drewN | apply Kd.R_drew)); exact HO_6.out) gb236 (Nat.le_of_eq hg.symm)) hb); have n2_ := Aside0.mk (blk_below (g := gb223) (o := .cells #[.bool x224000_1, .bool x224001_1, .int .i64 x224002_1, .int .i64 x224003_1] 137 (0, 0)) (by (with_reducible repeat (first | refine blk_drewN ?_ _ | refine blk_drew ?_ | refine blk_alloc ?_ _)); exact BK223.out) hb); have n3_ := Aside0.mk (blk_below (g := gb226) (o := .cells #[.int .u8 ((rd_T55 l0 x16_1).f0), .int .u8 ((rd_T55 l0 x16_1).f1)] 55 (0, 0)) (by (with_reducible repeat (first | refine blk_drewN ?_ _ | refine blk_drew ?_ | refine blk_alloc ?_ _)); exact BK226.out) hb); have n4_ := Aside0.mk (blk_below (g := gb234) (o := .cells #[.bool (decide (((rd_T55 l0 x16_1).f0) ≥ 19)), .bool false, .int .i64 x235002_3, .int .i64 x235003_3] 137 (0, 0)) (by (with_reducible repeat (first | refine blk_drewN ?_ _ | refine blk_drew ?_ | refine blk_alloc ?_ _)); exact BK234.out) hb); have n5_ := Aside0.mk (below_step (by repeat (first | (with_reducible first | exact HB.out | apply below_alloc | apply pw_below_drewN | apply below_drew1 | refine below_set ?_ GE223.out | refine below_set ?_ GE226.out | refine below_set ?_ GE234.out) | exact HB.out)) hb); have n6_ := Aside0.mk (hbox); have n7_ := Aside0.mk ((by rw [hg]; exact (below_size (by repeat (first | (with_reducible first | exact HB.out | apply below_alloc | apply pw_below_drewN | apply below_drew1 | refine below_set ?_ GE223.out | refine below_set ?_ GE226.out | refine below_set ?_ GE234.out) | exact HB.out))) : w.heap.size ≤ gb236)); have n8_ := Aside0.mk ((by rw [hg]; exact (below_size (by repeat (first | (with_reducible first | exact HB.out | apply below_alloc | apply pw_below_drewN | apply below_drew1 | refine below_set ?_ GE223.out | refine below_set ?_ GE226.out | refine below_set ?_ GE234.out) | exact HB.out))) : w.heap.size ≤ gb236)); have n9_ := Aside0.mk ((by rw [hg]; exact Nat.ne_of_lt (blk_lt (g := gb223) (o := .cells #[.bool x224000_1, .bool x224001_1, .int .i64 x224002_1, .int .i64 x224003_1] 137 (0, 0)) (by (with_reducible repeat (first | refine blk_drewN ?_ _ | refine blk_drew ?_ | refine blk_alloc ?_ _)); exact BK223.out)) : gb223 ≠ gb236)); have n10_ := Aside0.mk ((by rw [hg]; exact Nat.ne_of_gt (blk_lt (g := gb223) (o := .cells #[.bool x224000_1, .bool x224001_1, .int .i64 x224002_1, .int .i64 x224003_1] 137 (0, 0)) (by (with_reducible repeat (first | refine blk_drewN ?_ _ | refine blk_drew ?_ | refine blk_alloc ?_ _)); exact BK223.out)) : gb236 ≠ gb223)); have n11_ := Aside0.mk ((by rw [hg]; exact Nat.ne_of_lt (blk_lt (g := gb226) (o := .cells #[.int .u8 ((rd_T55 l0 x16_1).f0), .int .u8 ((rd_T55 l0 x16_1).f1)] 55 (0, 0)) (by (with_reducible repeat (first | refine blk_drewN ?_ _ | refine blk_drew ?_ | refine blk_alloc ?_ _)); exact BK226.out)) : gb226 ≠ gb236)); have n12_ := Aside0.mk ((by rw [hg]; exact Nat.ne_of_gt (blk_lt (g := gb226) (o := .cells #[.int .u8 ((rd_T55 l0 x16_1).f0), .int .u8 ((rd_T55 l0 x16_1).f1)] 55 (0, 0)) (by (with_reducible repeat (first | refine blk_drewN ?_ _ | refine blk_drew ?_ | refine blk_alloc ?_ _)); exact BK226.out)) : gb236 ≠ gb226)); have n13_ := Aside0.mk ((by rw [hg]; exact Nat.ne_of_lt (blk_lt (g := gb234) (o := .cells #[.bool (decide (((rd_T55 l0 x16_1).f0) ≥ 19)), .bool false, .int .i64 x235002_3, .int .i64 x235003_3] 137 (0, 0)) (by (with_reducible repeat (first | refine blk_drewN ?_ _ | refine blk_drew ?_ | refine blk_alloc ?_ _)); exact BK234.out)) : gb234 ≠ gb236)); have n14_ := Aside0.mk ((by rw [hg]; exact Nat.ne_of_gt (blk_lt (g := gb234) (o := .cells #[.bool (decide (((rd_T55 l0 x16_1).f0) ≥ 19)), .bool false, .int .i64 x235002_3, .int .i64 x235003_3] 137 (0, 0)) (by (with_reducible repeat (first | refine blk_drewN ?_ _ | refine blk_drew ?_ | refine blk_alloc ?_ _)); exact BK234.out)) : gb236 ≠ gb234)); clear HO_5; clear HO_6; clear BK223; clear BK226; clear BK234; clear HB; have HO_5 := n0_; have HO_6 := n1_; have BK223 := n2_; have BK226 := n3_; have BK234 := n4_; have HB := n5_; have BK236 := n6_; have GW236 := n7_; have GE236 := n8_; have NB223_236 := n9_; have NB236_223 := n10_; have NB226_236 := n11_; have NB236_226 := n12_; have NB234_236 := n13_; have NB236_234 := n14_; clear n0_ n1_ n2_ n3_ n4_ n5_ n6_ n7_ n8_ n9_ n10_ n11_ n12_ n13_ n14_; clear hb hbox hg; have hnb60 := NB236_223.out; have hnc60 := NB223_236.out; have hnb61 := NB236_226.out; have hnc61 := NB226_236.out; have hnb62 := NB236_234.out; have hnc62 := NB234_236.out; have hcz63_0 : w59.cell? ⟨gb236, 0, none⟩ = some (.bool false) := (blk_cell BK236.out 0).trans rfl; have hcz63_1 : w59.cell? ⟨gb236, 1, none⟩ = some (.bool false) := (blk_cell BK236.out 1).trans rfl; have hcz63_2 : w59.cell? ⟨gb236, 2, none⟩ = some (.int .i64 0) := (blk_cell BK236.out 2).trans rfl; have hcz63_3 : w59.cell? ⟨gb236, 3, none⟩ = some (.int .i64 0) := (blk_cell BK236.out 3).trans rfl; have hfz63_0 := blk_frozen BK236.out 0; have hfz63_1 := blk_frozen BK236.out 1; have hfz63_2 := blk_frozen BK236.out 2; have hfz63_3 := blk_frozen BK236.out 3; have hnb64 := NB234_223.out; have hnc64 := NB223_234.out; have hnb65 := NB234_226.out; have hnc65 := NB226_234.out; have hcz66_0 : w59.cell? ⟨gb234, 0, none⟩ = some (.bool (decide (((rd_T55 l0 x16_1).f0) ≥ 19))) := (blk_cell BK234.out 0).trans rfl; have hcz66_1 : w59.cell? ⟨gb234, 1, none⟩ = some (.bool false) := (blk_cell BK234.out 1).trans rfl; have hcz66_2 : w59.cell? ⟨gb234, 2, none⟩ = some (.int .i64 x235002_3) := (blk_cell BK234.out 2).trans rfl; have hcz66_3 : w59.cell? ⟨gb234, 3, none⟩ = some (.int .i64 x235003_3) := (blk_cell BK234.out 3).trans rfl; have hfz66_0 := blk_frozen BK234.out 0; have hfz66_1 := blk_frozen BK234.out 1; have hfz66_2 := blk_frozen BK234.out 2; have hfz66_3 := blk_frozen BK234.out 3))
                                      go_roundg k3
                                      case measure => have := HK1.out; have := HJ6.out; have := HK3.out; omega
                                      case rel => exact ⟨(wrap64 (x54_3 + 1)), (false), (ji57), ((rd_T137 y228 x54_3).f3), (by first | rfl | (simp; done) | (simp [*]; done)), H', ⟨by have := HK1.out; have := HJ6.out; have := HK3.out; omega⟩, ⟨by (with_reducible repeat (first | apply Kd.R_alloc | apply Kd.R_drewN | apply Kd.R_drew)); exact Kd.R_mono (Kd.R_far (p := ⟨gb234, 3, none⟩) (Kd.R_far (p := ⟨gb234, 2, none⟩) (Kd.R_far (p := ⟨gb234, 1, none⟩) (Kd.R_far (p := ⟨gb236, 3, none⟩) (Kd.R_far (p := ⟨gb236, 2, none⟩) (Kd.R_far (p := ⟨gb236, 1, none⟩) (Kd.R_far (p := ⟨gb236, 0, none⟩) (Kd.R_mono (Kd.R_mono HO_5.out (fun k_ hk => (⟨hk, hk.2⟩ : _ ∧ k_ ≠ gb236))) (fun k_ hk => (⟨hk, hk.1.1.2.2⟩ : _ ∧ k_ ≠ gb234))) (fun _ hk => hk.1.2) (.bool ((rd_T137 y228 x54_3).f0))) (fun _ hk => hk.1.2) (.bool ((rd_T137 y228 x54_3).f1))) (fun _ hk => hk.1.2) (.int .i64 ((rd_T137 y228 x54_3).f2))) (fun _ hk => hk.1.2) (.int .i64 ((rd_T137 y228 x54_3).f3))) (fun _ hk => hk.2) (.bool false)) (fun _ hk => hk.2) (.int .i64 ji57)) (fun _ hk => hk.2) (.int .i64 ((rd_T137 y228 x54_3).f3))) (fun _ hk => ⟨hk.1.1.1.1, ⟨hk.1.1.1.2.1, hk.1.1.1.2.2⟩⟩)⟩, ⟨by (with_reducible repeat (first | apply Kd.R_alloc | apply Kd.R_drewN | apply Kd.R_drew)); exact Kd.R_mono (Kd.R_far (p := ⟨gb234, 3, none⟩) (Kd.R_far (p := ⟨gb234, 2, none⟩) (Kd.R_far (p := ⟨gb234, 1, none⟩) (Kd.R_far (p := ⟨gb236, 3, none⟩) (Kd.R_far (p := ⟨gb236, 2, none⟩) (Kd.R_far (p := ⟨gb236, 1, none⟩) (Kd.R_far (p := ⟨gb236, 0, none⟩) (Kd.R_mono (Kd.R_mono HO_6.out (fun k_ hk => (⟨hk, hk.2⟩ : _ ∧ k_ ≠ gb236))) (fun k_ hk => (⟨hk, hk.1.1.2.2⟩ : _ ∧ k_ ≠ gb234))) (fun _ hk => hk.1.2) (.bool ((rd_T137 y228 x54_3).f0))) (fun _ hk => hk.1.2) (.bool ((rd_T137 y228 x54_3).f1))) (fun _ hk => hk.1.2) (.int .i64 ((rd_T137 y228 x54_3).f2))) (fun _ hk => hk.1.2) (.int .i64 ((rd_T137 y228 x54_3).f3))) (fun _ hk => hk.2) (.bool false)) (fun _ hk => hk.2) (.int .i64 ji57)) (fun _ hk => hk.2) (.int .i64 ((rd_T137 y228 x54_3).f3))) (fun _ hk => ⟨hk.1.1.1.1, ⟨hk.1.1.1.2.1, hk.1.1.1.2.2⟩⟩)⟩, ⟨by (with_reducible repeat (first | refine blk_drewN ?_ _ | refine blk_drew ?_ | refine blk_alloc ?_ _)); refine blk_far ?_ NB223_234.out _; (with_reducible repeat (first | refine blk_drewN ?_ _ | refine blk_drew ?_ | refine blk_alloc ?_ _)); refine blk_far ?_ NB223_234.out _; (with_reducible repeat (first | refine blk_drewN ?_ _ | refine blk_drew ?_ | refine blk_alloc ?_ _)); refine blk_far ?_ NB223_234.out _; (with_reducible repeat (first | refine blk_drewN ?_ _ | refine blk_drew ?_ | refine blk_alloc ?_ _)); refine blk_far ?_ NB223_236.out _; (with_reducible repeat (first | refine blk_drewN ?_ _ | refine blk_drew ?_ | refine blk_alloc ?_ _)); refine blk_far ?_ NB223_236.out _; (with_reducible repeat (first | refine blk_drewN ?_ _ | refine blk_drew ?_ | refine blk_alloc ?_ _)); refine blk_far ?_ NB223_236.out _; (with_reducible repeat (first | refine blk_drewN ?_ _ | refine blk_drew ?_ | refine blk_alloc ?_ _)); refine blk_far ?_ NB223_236.out _; (with_reducible repeat (first | refine blk_drewN ?_ _ | refine blk_drew ?_ | refine blk_alloc ?_ _)); exact BK223.out⟩, ⟨by (with_reducible repeat (first | refine blk_drewN ?_ _ | refine blk_drew ?_ | refine blk_alloc ?_ _)); refine blk_far ?_ NB226_234.out _; (with_reducible repeat (first | refine blk_drewN ?_ _ | refine blk_drew ?_ | refine blk_alloc ?_ _)); refine blk_far ?_ NB226_234.out _; (with_reducible repeat (first | refine blk_drewN ?_ _ | refine blk_drew ?_ | refine blk_alloc ?_ _)); refine blk_far ?_ NB226_234.out _; (with_reducible repeat (first | refine blk_drewN ?_ _ | refine blk_drew ?_ | refine blk_alloc ?_ _)); refine blk_far ?_ NB226_236.out _; (with_reducible repeat (first | refine blk_drewN ?_ _ | refine blk_drew ?_ | refine blk_alloc ?_ _)); refine blk_far ?_ NB226_236.out _; (with_reducible repeat (first | refine blk_drewN ?_ _ | refine blk_drew ?_ | refine blk_alloc ?_ _)); refine blk_far ?_ NB226_236.out _; (with_reducible repeat (first | refine blk_drewN ?_ _ | refine blk_drew ?_ | refine blk_alloc ?_ _)); refine blk_far ?_ NB226_236.out _; (with_reducible repeat (first | refine blk_drewN ?_ _ | refine blk_drew ?_ | refine blk_alloc ?_ _)); exact BK226.out⟩, ⟨by (with_reducible repeat (first | refine blk_drewN ?_ _ | refine blk_drew ?_ | refine blk_alloc ?_ _)); refine blk_put (cs := #[.bool (decide (((rd_T55 l0 x16_1).f0) ≥ 19)), .bool false, .int .i64 ji57, .int .i64 x235003_3]) ?_ 3 _ rfl; (with_reducible repeat (first | refine blk_drewN ?_ _ | refine blk_drew ?_ | refine blk_alloc ?_ _)); refine blk_put (cs := #[.bool (decide (((rd_T55 l0 x16_1).f0) ≥ 19)), .bool false, .int .i64 x235002_3, .int .i64 x235003_3]) ?_ 2 _ rfl; (with_reducible repeat (first | refine blk_drewN ?_ _ | refine blk_drew ?_ | refine blk_alloc ?_ _)); refine blk_put (cs := #[.bool (decide (((rd_T55 l0 x16_1).f0) ≥ 19)), .bool false, .int .i64 x235002_3, .int .i64 x235003_3]) ?_ 1 _ rfl; (with_reducible repeat (first | refine blk_drewN ?_ _ | refine blk_drew ?_ | refine blk_alloc ?_ _)); refine blk_far ?_ NB234_236.out _; (with_reducible repeat (first | refine blk_drewN ?_ _ | refine blk_drew ?_ | refine blk_alloc ?_ _)); refine blk_far ?_ NB234_236.out _; (with_reducible repeat (first | refine blk_drewN ?_ _ | refine blk_drew ?_ | refine blk_alloc ?_ _)); refine blk_far ?_ NB234_236.out _; (with_reducible repeat (first | refine blk_drewN ?_ _ | refine blk_drew ?_ | refine blk_alloc ?_ _)); refine blk_far ?_ NB234_236.out _; (with_reducible repeat (first | refine blk_drewN ?_ _ | refine blk_drew ?_ | refine blk_alloc ?_ _)); exact BK234.out⟩, ⟨by repeat (first | (with_reducible first | exact HB.out | apply below_alloc | apply pw_below_drewN | apply below_drew1 | refine below_set ?_ GE223.out | refine below_set ?_ GE226.out | refine below_set ?_ GE234.out | refine below_set ?_ GE236.out) | exact HB.out)⟩⟩
                                    · rw [if_neg c58] at H
                                      have c58b0 : (x54_3 == 0) = false := beq_eq_false_iff_ne.mpr c58
                                      have c58b1 : (x54_3 != 0) = true := bne_iff_ne.mpr c58
                                      have H' := Aside0.mk H
                                      clear H
                                      have p235 : 0 ≤ (x54_3 : Int) := of_decide_eq_true (by first | (with_reducible assumption) | assumption)
                                      have q235 : x54_3 < (y228.length : Int) := of_decide_eq_true (by first | (with_reducible assumption) | assumption)
                                      have HR231 : Aside0 (Kd.C k137 wr A24 y228.length y228) := ⟨by have h_ := Kd.C_drop (m := ((ji17) : Int).toNat) (c := co23) (Kd.R_reads' HO_6.out).2.2 KL24.out (Kd.R_reads' HO_6.out).2.1; rw [show (x6_1).drop ((ji17) : Int).toNat = y228 from Ny228.out.symm] at h_; rw [KA24.out]; exact h_⟩
                                      obtain ⟨ad235, e235, hx235_0, hx235_1, hx235_2, hx235_3⟩ := at_T137 HR231.out x54_3 p235 q235
                                      cases e235
                                      replace p235 := eq_true p235
                                      replace q235 := eq_true q235
                                      go_wp2_with (first | ((with_reducible refine gate_dst (N := 13) rfl ?_); (try (refine gate_guard (by rfl) ?_; dsimp only)); refine box_event ?hg (N := 13) ?hd (cs := #[.bool false, .bool false, .int .i64 0, .int .i64 0]) (t := 137) ?hr ?_; (case hd => rfl); (case hg => rfl); (case hr => first | (go_simp; done) | (go_simp; rfl)); intro gb236 hg w67 hbox hb; have n0_ := Aside0.mk (Kd.R_below (Kd.R_elderB (by (with_reducible repeat (first | apply Kd.R_alloc | apply Kd.R_drewN | apply Kd.R_drew)); exact HO_5.out) gb236 (Nat.le_of_eq hg.symm)) hb); have n1_ := Aside0.mk (Kd.R_below (Kd.R_elderB (by (with_reducible repeat (first | apply Kd.R_alloc | apply Kd.R_drewN | apply Kd.R_drew)); exact HO_6.out) gb236 (Nat.le_of_eq hg.symm)) hb); have n2_ := Aside0.mk (blk_below (g := gb223) (o := .cells #[.bool x224000_1, .bool x224001_1, .int .i64 x224002_1, .int .i64 x224003_1] 137 (0, 0)) (by (with_reducible repeat (first | refine blk_drewN ?_ _ | refine blk_drew ?_ | refine blk_alloc ?_ _)); exact BK223.out) hb); have n3_ := Aside0.mk (blk_below (g := gb226) (o := .cells #[.int .u8 ((rd_T55 l0 x16_1).f0), .int .u8 ((rd_T55 l0 x16_1).f1)] 55 (0, 0)) (by (with_reducible repeat (first | refine blk_drewN ?_ _ | refine blk_drew ?_ | refine blk_alloc ?_ _)); exact BK226.out) hb); have n4_ := Aside0.mk (blk_below (g := gb234) (o := .cells #[.bool (decide (((rd_T55 l0 x16_1).f0) ≥ 19)), .bool false, .int .i64 x235002_3, .int .i64 x235003_3] 137 (0, 0)) (by (with_reducible repeat (first | refine blk_drewN ?_ _ | refine blk_drew ?_ | refine blk_alloc ?_ _)); exact BK234.out) hb); have n5_ := Aside0.mk (below_step (by repeat (first | (with_reducible first | exact HB.out | apply below_alloc | apply pw_below_drewN | apply below_drew1 | refine below_set ?_ GE223.out | refine below_set ?_ GE226.out | refine below_set ?_ GE234.out) | exact HB.out)) hb); have n6_ := Aside0.mk (hbox); have n7_ := Aside0.mk ((by rw [hg]; exact (below_size (by repeat (first | (with_reducible first | exact HB.out | apply below_alloc | apply pw_below_drewN | apply below_drew1 | refine below_set ?_ GE223.out | refine below_set ?_ GE226.out | refine below_set ?_ GE234.out) | exact HB.out))) : w.heap.size ≤ gb236)); have n8_ := Aside0.mk ((by rw [hg]; exact (below_size (by repeat (first | (with_reducible first | exact HB.out | apply below_alloc | apply pw_below_drewN | apply below_drew1 | refine below_set ?_ GE223.out | refine below_set ?_ GE226.out | refine below_set ?_ GE234.out) | exact HB.out))) : w.heap.size ≤ gb236)); have n9_ := Aside0.mk ((by rw [hg]; exact Nat.ne_of_lt (blk_lt (g := gb223) (o := .cells #[.bool x224000_1, .bool x224001_1, .int .i64 x224002_1, .int .i64 x224003_1] 137 (0, 0)) (by (with_reducible repeat (first | refine blk_drewN ?_ _ | refine blk_drew ?_ | refine blk_alloc ?_ _)); exact BK223.out)) : gb223 ≠ gb236)); have n10_ := Aside0.mk ((by rw [hg]; exact Nat.ne_of_gt (blk_lt (g := gb223) (o := .cells #[.bool x224000_1, .bool x224001_1, .int .i64 x224002_1, .int .i64 x224003_1] 137 (0, 0)) (by (with_reducible repeat (first | refine blk_drewN ?_ _ | refine blk_drew ?_ | refine blk_alloc ?_ _)); exact BK223.out)) : gb236 ≠ gb223)); have n11_ := Aside0.mk ((by rw [hg]; exact Nat.ne_of_lt (blk_lt (g := gb226) (o := .cells #[.int .u8 ((rd_T55 l0 x16_1).f0), .int .u8 ((rd_T55 l0 x16_1).f1)] 55 (0, 0)) (by (with_reducible repeat (first | refine blk_drewN ?_ _ | refine blk_drew ?_ | refine blk_alloc ?_ _)); exact BK226.out)) : gb226 ≠ gb236)); have n12_ := Aside0.mk ((by rw [hg]; exact Nat.ne_of_gt (blk_lt (g := gb226) (o := .cells #[.int .u8 ((rd_T55 l0 x16_1).f0), .int .u8 ((rd_T55 l0 x16_1).f1)] 55 (0, 0)) (by (with_reducible repeat (first | refine blk_drewN ?_ _ | refine blk_drew ?_ | refine blk_alloc ?_ _)); exact BK226.out)) : gb236 ≠ gb226)); have n13_ := Aside0.mk ((by rw [hg]; exact Nat.ne_of_lt (blk_lt (g := gb234) (o := .cells #[.bool (decide (((rd_T55 l0 x16_1).f0) ≥ 19)), .bool false, .int .i64 x235002_3, .int .i64 x235003_3] 137 (0, 0)) (by (with_reducible repeat (first | refine blk_drewN ?_ _ | refine blk_drew ?_ | refine blk_alloc ?_ _)); exact BK234.out)) : gb234 ≠ gb236)); have n14_ := Aside0.mk ((by rw [hg]; exact Nat.ne_of_gt (blk_lt (g := gb234) (o := .cells #[.bool (decide (((rd_T55 l0 x16_1).f0) ≥ 19)), .bool false, .int .i64 x235002_3, .int .i64 x235003_3] 137 (0, 0)) (by (with_reducible repeat (first | refine blk_drewN ?_ _ | refine blk_drew ?_ | refine blk_alloc ?_ _)); exact BK234.out)) : gb236 ≠ gb234)); clear HO_5; clear HO_6; clear BK223; clear BK226; clear BK234; clear HB; have HO_5 := n0_; have HO_6 := n1_; have BK223 := n2_; have BK226 := n3_; have BK234 := n4_; have HB := n5_; have BK236 := n6_; have GW236 := n7_; have GE236 := n8_; have NB223_236 := n9_; have NB236_223 := n10_; have NB226_236 := n11_; have NB236_226 := n12_; have NB234_236 := n13_; have NB236_234 := n14_; clear n0_ n1_ n2_ n3_ n4_ n5_ n6_ n7_ n8_ n9_ n10_ n11_ n12_ n13_ n14_; clear hb hbox hg; have hnb68 := NB236_223.out; have hnc68 := NB223_236.out; have hnb69 := NB236_226.out; have hnc69 := NB226_236.out; have hnb70 := NB236_234.out; have hnc70 := NB234_236.out; have hcz71_0 : w67.cell? ⟨gb236, 0, none⟩ = some (.bool false) := (blk_cell BK236.out 0).trans rfl; have hcz71_1 : w67.cell? ⟨gb236, 1, none⟩ = some (.bool false) := (blk_cell BK236.out 1).trans rfl; have hcz71_2 : w67.cell? ⟨gb236, 2, none⟩ = some (.int .i64 0) := (blk_cell BK236.out 2).trans rfl; have hcz71_3 : w67.cell? ⟨gb236, 3, none⟩ = some (.int .i64 0) := (blk_cell BK236.out 3).trans rfl; have hfz71_0 := blk_frozen BK236.out 0; have hfz71_1 := blk_frozen BK236.out 1; have hfz71_2 := blk_frozen BK236.out 2; have hfz71_3 := blk_frozen BK236.out 3; have hnb72 := NB234_223.out; have hnc72 := NB223_234.out; have hnb73 := NB234_226.out; have hnc73 := NB226_234.out; have hcz74_0 : w67.cell? ⟨gb234, 0, none⟩ = some (.bool (decide (((rd_T55 l0 x16_1).f0) ≥ 19))) := (blk_cell BK234.out 0).trans rfl; have hcz74_1 : w67.cell? ⟨gb234, 1, none⟩ = some (.bool false) := (blk_cell BK234.out 1).trans rfl; have hcz74_2 : w67.cell? ⟨gb234, 2, none⟩ = some (.int .i64 x235002_3) := (blk_cell BK234.out 2).trans rfl; have hcz74_3 : w67.cell? ⟨gb234, 3, none⟩ = some (.int .i64 x235003_3) := (blk_cell BK234.out 3).trans rfl; have hfz74_0 := blk_frozen BK234.out 0; have hfz74_1 := blk_frozen BK234.out 1; have hfz74_2 := blk_frozen BK234.out 2; have hfz74_3 := blk_frozen BK234.out 3))
                                      go_roundg k3
                                      case measure => have := HK1.out; have := HJ6.out; have := HK3.out; omega
                                      case rel => exact ⟨(wrap64 (x54_3 + 1)), (false), (ji57), (x235003_3), (by first | rfl | (simp; done) | (simp [*]; done)), H', ⟨by have := HK1.out; have := HJ6.out; have := HK3.out; omega⟩, ⟨by (with_reducible repeat (first | apply Kd.R_alloc | apply Kd.R_drewN | apply Kd.R_drew)); exact Kd.R_mono (Kd.R_far (p := ⟨gb234, 2, none⟩) (Kd.R_far (p := ⟨gb234, 1, none⟩) (Kd.R_far (p := ⟨gb236, 3, none⟩) (Kd.R_far (p := ⟨gb236, 2, none⟩) (Kd.R_far (p := ⟨gb236, 1, none⟩) (Kd.R_far (p := ⟨gb236, 0, none⟩) (Kd.R_mono (Kd.R_mono HO_5.out (fun k_ hk => (⟨hk, hk.2⟩ : _ ∧ k_ ≠ gb236))) (fun k_ hk => (⟨hk, hk.1.1.2.2⟩ : _ ∧ k_ ≠ gb234))) (fun _ hk => hk.1.2) (.bool ((rd_T137 y228 x54_3).f0))) (fun _ hk => hk.1.2) (.bool ((rd_T137 y228 x54_3).f1))) (fun _ hk => hk.1.2) (.int .i64 ((rd_T137 y228 x54_3).f2))) (fun _ hk => hk.1.2) (.int .i64 ((rd_T137 y228 x54_3).f3))) (fun _ hk => hk.2) (.bool false)) (fun _ hk => hk.2) (.int .i64 ji57)) (fun _ hk => ⟨hk.1.1.1.1, ⟨hk.1.1.1.2.1, hk.1.1.1.2.2⟩⟩)⟩, ⟨by (with_reducible repeat (first | apply Kd.R_alloc | apply Kd.R_drewN | apply Kd.R_drew)); exact Kd.R_mono (Kd.R_far (p := ⟨gb234, 2, none⟩) (Kd.R_far (p := ⟨gb234, 1, none⟩) (Kd.R_far (p := ⟨gb236, 3, none⟩) (Kd.R_far (p := ⟨gb236, 2, none⟩) (Kd.R_far (p := ⟨gb236, 1, none⟩) (Kd.R_far (p := ⟨gb236, 0, none⟩) (Kd.R_mono (Kd.R_mono HO_6.out (fun k_ hk => (⟨hk, hk.2⟩ : _ ∧ k_ ≠ gb236))) (fun k_ hk => (⟨hk, hk.1.1.2.2⟩ : _ ∧ k_ ≠ gb234))) (fun _ hk => hk.1.2) (.bool ((rd_T137 y228 x54_3).f0))) (fun _ hk => hk.1.2) (.bool ((rd_T137 y228 x54_3).f1))) (fun _ hk => hk.1.2) (.int .i64 ((rd_T137 y228 x54_3).f2))) (fun _ hk => hk.1.2) (.int .i64 ((rd_T137 y228 x54_3).f3))) (fun _ hk => hk.2) (.bool false)) (fun _ hk => hk.2) (.int .i64 ji57)) (fun _ hk => ⟨hk.1.1.1.1, ⟨hk.1.1.1.2.1, hk.1.1.1.2.2⟩⟩)⟩, ⟨by (with_reducible repeat (first | refine blk_drewN ?_ _ | refine blk_drew ?_ | refine blk_alloc ?_ _)); refine blk_far ?_ NB223_234.out _; (with_reducible repeat (first | refine blk_drewN ?_ _ | refine blk_drew ?_ | refine blk_alloc ?_ _)); refine blk_far ?_ NB223_234.out _; (with_reducible repeat (first | refine blk_drewN ?_ _ | refine blk_drew ?_ | refine blk_alloc ?_ _)); refine blk_far ?_ NB223_236.out _; (with_reducible repeat (first | refine blk_drewN ?_ _ | refine blk_drew ?_ | refine blk_alloc ?_ _)); refine blk_far ?_ NB223_236.out _; (with_reducible repeat (first | refine blk_drewN ?_ _ | refine blk_drew ?_ | refine blk_alloc ?_ _)); refine blk_far ?_ NB223_236.out _; (with_reducible repeat (first | refine blk_drewN ?_ _ | refine blk_drew ?_ | refine blk_alloc ?_ _)); refine blk_far ?_ NB223_236.out _; (with_reducible repeat (first | refine blk_drewN ?_ _ | refine blk_drew ?_ | refine blk_alloc ?_ _)); exact BK223.out⟩, ⟨by (with_reducible repeat (first | refine blk_drewN ?_ _ | refine blk_drew ?_ | refine blk_alloc ?_ _)); refine blk_far ?_ NB226_234.out _; (with_reducible repeat (first | refine blk_drewN ?_ _ | refine blk_drew ?_ | refine blk_alloc ?_ _)); refine blk_far ?_ NB226_234.out _; (with_reducible repeat (first | refine blk_drewN ?_ _ | refine blk_drew ?_ | refine blk_alloc ?_ _)); refine blk_far ?_ NB226_236.out _; (with_reducible repeat (first | refine blk_drewN ?_ _ | refine blk_drew ?_ | refine blk_alloc ?_ _)); refine blk_far ?_ NB226_236.out _; (with_reducible repeat (first | refine blk_drewN ?_ _ | refine blk_drew ?_ | refine blk_alloc ?_ _)); refine blk_far ?_ NB226_236.out _; (with_reducible repeat (first | refine blk_drewN ?_ _ | refine blk_drew ?_ | refine blk_alloc ?_ _)); refine blk_far ?_ NB226_236.out _; (with_reducible repeat (first | refine blk_drewN ?_ _ | refine blk_drew ?_ | refine blk_alloc ?_ _)); exact BK226.out⟩, ⟨by (with_reducible repeat (first | refine blk_drewN ?_ _ | refine blk_drew ?_ | refine blk_alloc ?_ _)); refine blk_put (cs := #[.bool (decide (((rd_T55 l0 x16_1).f0) ≥ 19)), .bool false, .int .i64 x235002_3, .int .i64 x235003_3]) ?_ 2 _ rfl; (with_reducible repeat (first | refine blk_drewN ?_ _ | refine blk_drew ?_ | refine blk_alloc ?_ _)); refine blk_put (cs := #[.bool (decide (((rd_T55 l0 x16_1).f0) ≥ 19)), .bool false, .int .i64 x235002_3, .int .i64 x235003_3]) ?_ 1 _ rfl; (with_reducible repeat (first | refine blk_drewN ?_ _ | refine blk_drew ?_ | refine blk_alloc ?_ _)); refine blk_far ?_ NB234_236.out _; (with_reducible repeat (first | refine blk_drewN ?_ _ | refine blk_drew ?_ | refine blk_alloc ?_ _)); refine blk_far ?_ NB234_236.out _; (with_reducible repeat (first | refine blk_drewN ?_ _ | refine blk_drew ?_ | refine blk_alloc ?_ _)); refine blk_far ?_ NB234_236.out _; (with_reducible repeat (first | refine blk_drewN ?_ _ | refine blk_drew ?_ | refine blk_alloc ?_ _)); refine blk_far ?_ NB234_236.out _; (with_reducible repeat (first | refine blk_drewN ?_ _ | refine blk_drew ?_ | refine blk_alloc ?_ _)); exact BK234.out⟩, ⟨by repeat (first | (with_reducible first | exact HB.out | apply below_alloc | apply pw_below_drewN | apply below_drew1 | refine below_set ?_ GE223.out | refine below_set ?_ GE226.out | refine below_set ?_ GE234.out | refine below_set ?_ GE236.out) | exact HB.out)⟩⟩
                                · rw [if_neg c37] at H
                                  exact absurd H (by simp)
                              · rw [if_neg c36] at H
                                exact absurd H (by simp)
          · rw [if_neg c5] at H
            exact absurd H (by simp)
        · rw [if_neg c4] at H
          exact absurd H (by simp)
end Go.Proofs.YtaogoabnidbbpaaDoor.PText
/-! TextTrmRead -/
namespace Go.Proofs.YtaogoabnidbbpaaDoor.PText.Trm
open Go.RowKit Go.Proofs.YtaogoabnidbbpaaDoorW.PrintWords Go.Proofs.YtaogoabnidbbpaaDoorW.PrintLast Go.Proofs.YtaogoabnidbbpaaDoorW.PrintMore
set_option linter.unusedVariables false
theorem w64 {x : Int} (h0 : -9223372036854775808 ≤ x) (h1 : x ≤ 9223372036854775807) : wrap64 x = x := by unfold wrap64; omega
theorem mx_max (a b : Int) : mx a b = max a b := by unfold mx; split <;> omega
theorem takes_ev (o p : Int) : Ev (fun k => term_takes.f k o p) (takesI o p) := ⟨3, fun k hk => by obtain ⟨m, rfl⟩ : ∃ m, k = m + 3 := ⟨k - 3, by omega⟩; exact takes_now m o p⟩
theorem rdT_at (a : List Pt) (j : Nat) (h : j < a.length) : rd_T137 a (j : Int) = a[j] := by unfold rd_T137; rw [Int.toNat_natCast, List.getD_eq_getElem?_getD, List.getElem?_eq_getElem h]; rfl
theorem rdK_at (a : List Tk) (j : Nat) (h : j < a.length) : rd_T55 a (j : Int) = a[j] := by unfold rd_T55; rw [Int.toNat_natCast, List.getD_eq_getElem?_getD, List.getElem?_eq_getElem h]; rfl
def failed : List Pt × Bool × Bool × Int × Int × Bool := ([], false, false, 0, 0, false)
/-- What read tells of a run's end. -/
def res : Option (List Pt × List Pt) → List Pt × Bool × Bool × Int × Int × Bool
  | some (all, [p]) => (all, p.f0, p.f1, p.f2, p.f3, true)
  | _ => failed
theorem l1_step (k : Nat) (all st : List Pt) (n : Int) (l : List Tk) (L i : Int) (a : List Pt) (j : Nat) (path plain : Bool) (depth frm : Int) (hj : j < a.length) (ha : a.length ≤ 1000) (hd : -1000 ≤ a[j].f2 ∧ a[j].f2 ≤ 1000) :
    term_read.l1 (k + 1) all st n l L i a a.length j path plain depth frm = term_read.l1 k all st n l L i a a.length ((j + 1 : Nat) : Int) path (plain && a[j].f1) (max depth (a[j].f2 + 1)) (if j = 0 then a[j].f3 else frm) := by
  rw [term_read.l1, if_pos (by omega), if_pos (by omega), if_pos (by omega), rdT_at a j hj]
  have e1 : wrap64 ((j : Int) + 1) = ((j + 1 : Nat) : Int) := by rw [w64 (by omega) (by omega)]; omega
  have e2 : wrap64 (a[j].f2 + 1) = a[j].f2 + 1 := w64 (by omega) (by omega)
  rw [e1, e2, mx_max]
  cases plain
  · rw [if_neg (by decide)]
    by_cases h0 : j = 0
    · rw [if_pos (by omega), if_pos h0]; rfl
    · rw [if_neg (by omega), if_neg h0]; rfl
  · rw [if_pos rfl, Bool.true_and]
    by_cases h0 : j = 0
    · rw [if_pos (by omega), if_pos h0]
    · rw [if_neg (by omega), if_neg h0]
theorem l1_end (k : Nat) (all st : List Pt) (n : Nat) (l : List Tk) (L : Int) (i : Nat) (a : List Pt) (path plain : Bool) (depth frm : Int) (hn : n ≤ st.length) (hs : st.length ≤ 1000) (hal : all.length ≤ 1000) (hi : i ≤ 1000) :
    term_read.l1 (k + 1) all st n l L i a a.length (a.length : Nat) path plain depth frm = term_read.l0 k (all ++ [⟨path, plain, depth, frm⟩]) (st.take (st.length - n) ++ [⟨path, plain, depth, frm⟩]) l L ((i + 1 : Nat) : Int) := by
  have e1 : wrap64 ((st.length : Int) - n) = ((st.length - n : Nat) : Int) := by rw [w64 (by omega) (by omega)]; omega
  have e2 : wrap64 ((i : Int) + 1) = ((i + 1 : Nat) : Int) := by rw [w64 (by omega) (by omega)]; omega
  rw [term_read.l1, if_neg (by omega), e1, e2, if_pos (by omega), if_pos (by omega), Int.toNat_natCast]
  simp only [Option.bind_some]
  rw [if_pos (by rw [List.length_take]; omega), if_pos (by omega)]
/-- The inner loop makes the token's part. -/
theorem fold_ev {r : List Pt × Bool × Bool × Int × Int × Bool} (all st : List Pt) (n : Nat) (l : List Tk) (L : Int) (i : Nat) (o : Int) (hn : n ≤ st.length) (h2 : n ≤ 2) (hs : st.length ≤ 1000) (hal : all.length ≤ 1000) (hi : i ≤ 1000)
    (hd : ∀ p ∈ st, 1 ≤ p.f2 ∧ p.f2 ≤ 1000) (h : Ev (fun k => term_read.l0 k (all ++ [mk o i (st.drop (st.length - n))]) (st.take (st.length - n) ++ [mk o i (st.drop (st.length - n))]) l L ((i + 1 : Nat) : Int)) r) :
    Ev (fun k => term_read.l1 k all st n l L i (st.drop (st.length - n)) ((st.drop (st.length - n)).length : Nat) 0 (decide (o ≥ 19)) (plainB o) 1 i) r := by
  have hda : ∀ p ∈ st.drop (st.length - n), 1 ≤ p.f2 ∧ p.f2 ≤ 1000 := fun p hp => hd p (List.mem_of_mem_drop hp)
  have hla : (st.drop (st.length - n)).length = n := by rw [List.length_drop]; omega
  generalize hA : st.drop (st.length - n) = a at h hda hla
  have e0 : (0 : Int) = ((0 : Nat) : Int) := rfl
  match a, hla with
  | [], e =>
    rw [e0]
    refine Ev.step (fun k => l1_end k all st n l L i [] _ _ _ _ hn hs hal hi) ?_
    simpa [mk] using h
  | [x], e =>
    have hx := hda x (by simp)
    rw [e0]
    refine Ev.step (fun k => l1_step k all st n l L i [x] 0 _ _ _ _ (by simp) (by simp) (by show -1000 ≤ x.f2 ∧ x.f2 ≤ 1000; omega)) ?_
    refine Ev.step (fun k => l1_end k all st n l L i [x] _ _ _ _ hn hs hal hi) ?_
    simpa [mk] using h
  | [x, y], e =>
    have hx := hda x (by simp)
    have hy := hda y (by simp)
    rw [e0]
    refine Ev.step (fun k => l1_step k all st n l L i [x, y] 0 _ _ _ _ (by simp) (by simp) (by show -1000 ≤ x.f2 ∧ x.f2 ≤ 1000; omega)) ?_
    refine Ev.step (fun k => l1_step k all st n l L i [x, y] 1 _ _ _ _ (by simp) (by simp) (by show -1000 ≤ y.f2 ∧ y.f2 ≤ 1000; omega)) ?_
    refine Ev.step (fun k => l1_end k all st n l L i [x, y] _ _ _ _ hn hs hal hi) ?_
    simpa [mk, Bool.and_assoc] using h
  | x :: y :: z :: a, e => exfalso; simp only [List.length_cons] at e; omega
theorem j1_fail (k : Nat) (all st : List Pt) (x7 n : Int) (l : List Tk) (L i o p : Int) : term_read.j1 (k + 1) all st x7 n l L i true o p = some failed := by rw [term_read.j1, if_pos rfl]; rfl
theorem read_from (l : List Tk) (hl : l.length ≤ 512) (ts : List Tk) : ∀ (i : Nat) (all st : List Pt), i + ts.length = l.length → l.drop i = ts → all.length = i → st.length ≤ i → (∀ p ∈ st, 1 ≤ p.f2 ∧ p.f2 ≤ i) →
    Ev (fun k => term_read.l0 k all st l l.length i) (res (run i all st ts)) := by
  induction ts with
  | nil =>
    intro i all st hi hd ha hs hp
    rw [List.length_nil] at hi
    rw [run]
    refine Ev.step (f := fun _ => some (res (some (all, st)))) (fun k => ?_) (Ev.now _)
    rw [term_read.l0, if_neg (by omega)]
    match st with
    | [] => rfl
    | [p] => rfl
    | p :: q :: st =>
      rw [if_neg (by simp only [List.length_cons]; omega)]; rfl
  | cons t ts ih =>
    intro i all st hi hd ha hs hp
    rw [List.length_cons] at hi
    have hit : l[i] = t := by
      have h1 := List.drop_eq_getElem_cons (show i < l.length by omega)
      rw [hd] at h1
      exact ((List.cons.inj h1).1).symm
    have hd2 : l.drop (i + 1) = ts := by
      have h1 := List.drop_eq_getElem_cons (show i < l.length by omega)
      rw [hd] at h1
      exact ((List.cons.inj h1).2).symm
    refine Ev.step (fun k => by rw [term_read.l0, if_pos (by omega), if_pos (by omega), if_pos (by omega), rdK_at l i (by omega), hit]) ?_
    refine Ev.bind (takes_ev t.f0 t.f1) ?_
    rw [run]
    unfold step takesI
    cases hn : takesN t.f0 t.f1 with
    | none =>
      simp only [Option.bind_none]
      refine Ev.congr (f := fun k => term_read.j1 k all st i (-1) l l.length i true t.f0 t.f1) (fun k => by rw [if_pos (by decide)]) ?_
      exact Ev.step (fun k => j1_fail k _ _ _ _ _ _ _ _ _) (Ev.now _)
    | some n =>
      have hn2 := takesN_le hn
      simp only [Option.bind_some]
      refine Ev.congr (f := fun k => term_read.j1 k all st i n l l.length i (decide ((n : Int) > st.length)) t.f0 t.f1) (fun k => by rw [if_neg (by omega)]) ?_
      by_cases hle : n ≤ st.length
      · rw [if_pos hle]
        have e0 : decide ((n : Int) > st.length) = false := decide_eq_false (by omega)
        rw [e0]
        have e1 : wrap64 ((st.length : Int) - n) = ((st.length - n : Nat) : Int) := by rw [w64 (by omega) (by omega)]; omega
        have hla : (st.drop (st.length - n)).length = n := by rw [List.length_drop]; omega
        have hfit := fits_now hn hla
        have hpl := plain_now t.f0
        refine Ev.step (f := fun k => if fitsB t.f0 (st.drop (st.length - n)) = true then term_read.l1 k all st n l l.length i (st.drop (st.length - n)) ((st.drop (st.length - n)).length : Nat) 0 (decide (t.f0 ≥ 19)) (plainB t.f0) 1 i else some failed) (fun k => ?_) ?_
        · rw [term_read.j1, if_neg (by decide), e1, if_pos (by omega), if_pos (by omega), Int.toNat_natCast]
          simp only [Option.bind_some]
          rw [hfit, hpl]
          simp only [Option.bind_some]
          rfl
        · by_cases hf : fitsB t.f0 (st.drop (st.length - n)) = true
          · rw [if_pos hf]
            refine Ev.congr (f := fun k => term_read.l1 k all st n l l.length i (st.drop (st.length - n)) ((st.drop (st.length - n)).length : Nat) 0 (decide (t.f0 ≥ 19)) (plainB t.f0) 1 i) (fun k => by rw [if_pos hf]) ?_
            refine fold_ev all st n l l.length i t.f0 hle hn2 (by omega) (by omega) (by omega) (fun p hq => by have := hp p hq; omega) ?_
            simp only [Option.bind_some]
            refine ih (i + 1) _ _ (by omega) hd2 (by rw [List.length_append, ha]; rfl) (by rw [List.length_append, List.length_take, List.length_singleton]; omega) ?_
            intro p hq
            rcases List.mem_append.1 hq with hq | hq
            · have := hp p (List.mem_of_mem_take hq); omega
            · rw [List.mem_singleton.1 hq]
              refine ⟨(fold_max _ 1).1, fold_bound _ 1 _ (by omega) fun x hx => ?_⟩
              have := hp x (List.mem_of_mem_drop hx)
              omega
          · rw [if_neg hf]
            refine Ev.congr (f := fun k => some failed) (fun k => by rw [if_neg hf]) (Ev.now _)
      · rw [if_neg hle]
        have e0 : decide ((n : Int) > st.length) = true := decide_eq_true (by omega)
        rw [e0]
        exact Ev.step (fun k => j1_fail k _ _ _ _ _ _ _ _ _) (Ev.now _)
theorem read_ev (l : List Tk) (hl : l.length ≤ 512) : Ev (fun k => term_read.f k l) (res (run 0 [] [] l)) := read_from l hl l 0 [] [] (by omega) rfl rfl (Nat.le_refl _) (fun _ h => by cases h)
end Go.Proofs.YtaogoabnidbbpaaDoor.PText.Trm
/-! PTextx3 -/
namespace Go.Proofs.YtaogoabnidbbpaaDoor.PText
open Go.RowKit Go.Proofs.YtaogoabnidbbpaaDoorW.PrintWords Go.Proofs.YtaogoabnidbbpaaDoorW.PrintLast Go.Proofs.YtaogoabnidbbpaaDoorW.PrintMore
attribute [local go_sem] max2_int min2_int max_two min_two max_three min_three max_four min_four   -- for this text's walks alone
set_option linter.unusedVariables false
set_option linter.unusedSimpArgs false
theorem eqA55 (d : Nat) (w : World) (x0 y0 : Int) (x1 y1 : Int) :
    (Op.equalIn (d + 2) 55 (.agg #[.int .u8 x0, .int .u8 x1]) (.agg #[.int .u8 y0, .int .u8 y1])).run Tryd.prog w = .ok (x0 == y0 && (x1 == y1)) w := by
  refine eqA_of Tryd.underlying55 (by kernel_rfl) ?_
  refine eqf_cons (by rfl) (by go_simp; rfl) (by go_simp; rfl) (by go_simp) ?_
  exact eqf_last (by rfl) (by go_simp; rfl) (by go_simp; rfl) (by go_simp)
end Go.Proofs.YtaogoabnidbbpaaDoor.PText
