/- Functions of the program, each stated as a Lean function, and its call proved to do what that says. Printed by the kit's print.py, mended by hand at two faults. Conditions stand in each theorem. -/
import Derived.Test.YtgemencaeocmmaaPTermx0
import Derived.Test.YtgemencaeocmmaaPTermx2
import Derived.Test.YtgemencaeocmmaaTermFits
namespace Go.Proofs.Ytgemencaeocmmaa.PTerm
open Go.RowKit Go.Proofs.YtgemencaeocmmaaW.PrintWords Go.Proofs.YtgemencaeocmmaaW.PrintLast Go.Proofs.YtgemencaeocmmaaW.PrintMore
attribute [local go_sem] max2_int min2_int max_two min_two max_three min_three max_four min_four   -- for this text's walks alone
set_option linter.unusedVariables false
set_option linter.unusedSimpArgs false

/-! ### term_read: function 39 -/
mutual
def term_read.l0 : Nat → List (S55) → List (S55) → List (S50) → Int → Int → Option ((List (S55)) × Bool × Bool × Int × Int × Bool)
  | 0, _, _, _, _, _ => none
  | k + 1, x5, x6, x14, x15, x16 => if x16 < x15 then (if 0 ≤ x16 then (if x16 < (x14.length : Int) then ((term_takes.f k ((rd_T50 x14 x16).f0) ((rd_T50 x14 x16).f1)).bind fun t109 => (if t109 < 0 then (term_read.j1 k x5 x6 x16 t109 x14 x15 x16 true ((rd_T50 x14 x16).f0) ((rd_T50 x14 x16).f1)) else (term_read.j1 k x5 x6 x16 t109 x14 x15 x16 (decide (t109 > (x6.length : Int))) ((rd_T50 x14 x16).f0) ((rd_T50 x14 x16).f1)))) else (none)) else (none)) else (if (x6.length : Int) = 1 then (if 0 < (x6.length : Int) then (some (x5, (rd_T55 x6 0).f0, (rd_T55 x6 0).f1, (rd_T55 x6 0).f2, (rd_T55 x6 0).f3, true)) else (none)) else (some (([] : List (S55)), false, false, 0, 0, false)))
def term_read.j1 : Nat → List (S55) → List (S55) → Int → Int → List (S50) → Int → Int → Bool → Int → Int → Option ((List (S55)) × Bool × Bool × Int × Int × Bool)
  | 0, _, _, _, _, _, _, _, _, _, _ => none
  | k + 1, x5, x6, x7, x9, x14, x15, x16, x30, x109000, x109001 => if x30 = true then (some (([] : List (S55)), false, false, 0, 0, false)) else (if 0 ≤ (wrap64 ((x6.length : Int) - x9)) then (if (wrap64 ((x6.length : Int) - x9)) ≤ (x6.length : Int) then ((some (x6.drop ((wrap64 ((x6.length : Int) - x9)) : Int).toNat : List (S55))).bind fun y110 => ((term_fits.f x109000 y110).bind fun t114 => (if t114 = true then ((term_plain.f x109000).bind fun t115 => (term_read.l1 k x5 x6 x9 x14 x15 x16 y110 (y110.length : Int) 0 (decide (x109000 ≥ 19)) t115 1 x7)) else (some (([] : List (S55)), false, false, 0, 0, false))))) else (none)) else (none))
def term_read.l1 : Nat → List (S55) → List (S55) → Int → List (S50) → Int → Int → List (S55) → Int → Int → Bool → Bool → Int → Int → Option ((List (S55)) × Bool × Bool × Int × Int × Bool)
  | 0, _, _, _, _, _, _, _, _, _, _, _, _, _ => none
  | k + 1, x5, x6, x9, x14, x15, x16, x52, x53, x54, x117000, x117001, x117002, x117003 => if x54 < x53 then (if 0 ≤ x54 then (if x54 < (x52.length : Int) then (if x117001 = true then (if x54 = 0 then (term_read.l1 k x5 x6 x9 x14 x15 x16 x52 x53 (wrap64 (x54 + 1)) x117000 ((rd_T55 x52 x54).f1) (mx x117002 (wrap64 (((rd_T55 x52 x54).f2) + 1))) ((rd_T55 x52 x54).f3)) else (term_read.l1 k x5 x6 x9 x14 x15 x16 x52 x53 (wrap64 (x54 + 1)) x117000 ((rd_T55 x52 x54).f1) (mx x117002 (wrap64 (((rd_T55 x52 x54).f2) + 1))) x117003)) else (if x54 = 0 then (term_read.l1 k x5 x6 x9 x14 x15 x16 x52 x53 (wrap64 (x54 + 1)) x117000 false (mx x117002 (wrap64 (((rd_T55 x52 x54).f2) + 1))) ((rd_T55 x52 x54).f3)) else (term_read.l1 k x5 x6 x9 x14 x15 x16 x52 x53 (wrap64 (x54 + 1)) x117000 false (mx x117002 (wrap64 (((rd_T55 x52 x54).f2) + 1))) x117003))) else (none)) else (none)) else (if 0 ≤ (wrap64 ((x6.length : Int) - x9)) then (if (wrap64 ((x6.length : Int) - x9)) ≤ (x6.length : Int) then ((some (x6.take ((wrap64 ((x6.length : Int) - x9)) : Int).toNat : List (S55))).bind fun y119 => (if y119.length < 5864062014805 then (if x5.length < 5864062014805 then (term_read.l0 k (x5 ++ [(⟨x117000, x117001, x117002, x117003⟩ : S55)]) (y119 ++ [(⟨x117000, x117001, x117002, x117003⟩ : S55)]) x14 x15 (wrap64 (x16 + 1))) else (none)) else (none))) else (none)) else (none))
end
def term_read.f (k : Nat) (l0 : List (S50)) : Option ((List (S55)) × Bool × Bool × Int × Int × Bool) := term_read.l0 k ([] : List (S55)) ([] : List (S55)) l0 (l0.length : Int) 0
theorem term_read.mono_l : ∀ k, (∀ y0 y1 y2 y3 y4, LeO (term_read.l0 k y0 y1 y2 y3 y4) (term_read.l0 (k + 1) y0 y1 y2 y3 y4)) ∧ (∀ y0 y1 y2 y3 y4 y5 y6 y7 y8 y9, LeO (term_read.j1 k y0 y1 y2 y3 y4 y5 y6 y7 y8 y9) (term_read.j1 (k + 1) y0 y1 y2 y3 y4 y5 y6 y7 y8 y9)) ∧ (∀ y0 y1 y2 y3 y4 y5 y6 y7 y8 y9 y10 y11 y12, LeO (term_read.l1 k y0 y1 y2 y3 y4 y5 y6 y7 y8 y9 y10 y11 y12) (term_read.l1 (k + 1) y0 y1 y2 y3 y4 y5 y6 y7 y8 y9 y10 y11 y12))
  | 0 => ⟨fun _ _ _ _ _ r h => by simp [term_read.l0] at h, fun _ _ _ _ _ _ _ _ _ _ r h => by simp [term_read.j1] at h, fun _ _ _ _ _ _ _ _ _ _ _ _ _ r h => by simp [term_read.l1] at h⟩
  | k + 1 => by
    obtain ⟨ih0, ih1, ih2⟩ := term_read.mono_l k
    refine ⟨?_, ?_, ?_⟩
    · intro y0 y1 y2 y3 y4
      unfold term_read.l0
      repeat' first
      | (with_reducible exact ih0 _ _ _ _ _)
      | (with_reducible exact ih1 _ _ _ _ _ _ _ _ _ _)
      | (with_reducible exact ih2 _ _ _ _ _ _ _ _ _ _ _ _ _)
      | (with_reducible exact term_takes.mono _ _ _)
      | (with_reducible exact LeO.refl _)
      | (with_reducible exact LeO.none _)
      | (with_reducible refine LeO.ite ?_ ?_)
      | (with_reducible refine LeO.bind ?_ (fun _ => ?_))
      | exact ih0 _ _ _ _ _
      | exact ih1 _ _ _ _ _ _ _ _ _ _
      | exact ih2 _ _ _ _ _ _ _ _ _ _ _ _ _
      | exact term_takes.mono _ _ _
      | exact LeO.none _
      | refine LeO.ite ?_ ?_
      | refine LeO.bind ?_ (fun _ => ?_)
    · intro y0 y1 y2 y3 y4 y5 y6 y7 y8 y9
      unfold term_read.j1
      repeat' first
      | (with_reducible exact ih0 _ _ _ _ _)
      | (with_reducible exact ih1 _ _ _ _ _ _ _ _ _ _)
      | (with_reducible exact ih2 _ _ _ _ _ _ _ _ _ _ _ _ _)
      | (with_reducible exact term_takes.mono _ _ _)
      | (with_reducible exact LeO.refl _)
      | (with_reducible exact LeO.none _)
      | (with_reducible refine LeO.ite ?_ ?_)
      | (with_reducible refine LeO.bind ?_ (fun _ => ?_))
      | exact ih0 _ _ _ _ _
      | exact ih1 _ _ _ _ _ _ _ _ _ _
      | exact ih2 _ _ _ _ _ _ _ _ _ _ _ _ _
      | exact term_takes.mono _ _ _
      | exact LeO.none _
      | refine LeO.ite ?_ ?_
      | refine LeO.bind ?_ (fun _ => ?_)
    · intro y0 y1 y2 y3 y4 y5 y6 y7 y8 y9 y10 y11 y12
      unfold term_read.l1
      repeat' first
      | (with_reducible exact ih0 _ _ _ _ _)
      | (with_reducible exact ih1 _ _ _ _ _ _ _ _ _ _)
      | (with_reducible exact ih2 _ _ _ _ _ _ _ _ _ _ _ _ _)
      | (with_reducible exact term_takes.mono _ _ _)
      | (with_reducible exact LeO.refl _)
      | (with_reducible exact LeO.none _)
      | (with_reducible refine LeO.ite ?_ ?_)
      | (with_reducible refine LeO.bind ?_ (fun _ => ?_))
      | exact ih0 _ _ _ _ _
      | exact ih1 _ _ _ _ _ _ _ _ _ _
      | exact ih2 _ _ _ _ _ _ _ _ _ _ _ _ _
      | exact term_takes.mono _ _ _
      | exact LeO.none _
      | refine LeO.ite ?_ ?_
      | refine LeO.bind ?_ (fun _ => ?_)
theorem term_read.mono : ∀ a0 k, LeO (term_read.f k a0) (term_read.f (k + 1) a0) := by
  intro a0 k
  obtain ⟨ih0, ih1, ih2⟩ := term_read.mono_l k
  unfold term_read.f
  repeat' first
      | (with_reducible exact ih0 _ _ _ _ _)
      | (with_reducible exact ih1 _ _ _ _ _ _ _ _ _ _)
      | (with_reducible exact ih2 _ _ _ _ _ _ _ _ _ _ _ _ _)
      | (with_reducible exact term_takes.mono _ _ _)
      | (with_reducible exact LeO.refl _)
      | (with_reducible exact LeO.none _)
      | (with_reducible refine LeO.ite ?_ ?_)
      | (with_reducible refine LeO.bind ?_ (fun _ => ?_))
      | exact ih0 _ _ _ _ _
      | exact ih1 _ _ _ _ _ _ _ _ _ _
      | exact ih2 _ _ _ _ _ _ _ _ _ _ _ _ _
      | exact term_takes.mono _ _ _
      | exact LeO.none _
      | refine LeO.ite ?_ ?_
      | refine LeO.bind ?_ (fun _ => ?_)
def term_read.T11 : Bool × List (List Nat × List Nat) := (true, [([], []), ([0], [0]), ([1], [1]), ([], []), ([3], [3]), ([4], [4]), ([], []), ([2, 5, 6], [2, 5, 6]), ([], []), ([8, 7, 5, 0, 1, 2, 3, 4, 5, 6, 7, 8], [7, 8])])
def term_read.B11 : List Nat := [0, 1, 3, 0, 8, 24, 0, 127, 0, 511]
theorem term_read.tab11 : rtab .any (opsOf Try.f39 11) = term_read.T11 := by kernel_rfl
theorem term_read.bits11 : waitsOk term_read.T11.2 term_read.B11 = true := by kernel_rfl
def term_read.T20 : Bool × List (List Nat × List Nat) := (true, [([], []), ([], []), ([1], [1]), ([], []), ([2, 3], [2, 3]), ([0, 4], [0, 4]), ([], []), ([6], [6]), ([5, 7], [5, 7]), ([8, 8, 0, 1, 2, 3, 4, 5, 6, 7, 8], [0, 1, 8])])
def term_read.B20 : List Nat := [0, 0, 2, 0, 14, 31, 0, 64, 255, 511]
theorem term_read.tab20 : rtab .any (opsOf Try.f39 20) = term_read.T20 := by kernel_rfl
theorem term_read.bits20 : waitsOk term_read.T20.2 term_read.B20 = true := by kernel_rfl
set_option maxHeartbeats 8000000 in
set_option maxRecDepth 100000 in
theorem term_read.calls (k : Nat) (A0 : Option Addr) (c0 : Nat) (l0 : List (S50)) (r1 : List (S55)) (r2 : Bool) (r3 : Bool) (r4 : Int) (r5 : Int) (r6 : Bool) (w : World) (hr0 : Kd.C k50 w A0 l0.length l0) (hc0 : l0.length ≤ c0) (h : term_read.f k l0 = some (r1, r2, r3, r4, r5, r6)) :
    Calls Try.prog 39 #[.slice A0 l0.length c0] w fun e w' => ∃ v0_ : Value, e = .returned (.tuple #[v0_, .agg #[.bool r2, .bool r3, .int .i64 r4, .int .i64 r5], .bool r6]) ∧ Kd.R k55 55 w' w.heap.size (fun _ => True) v0_ r1 ∧ Below w.heap.size w w' := by
  have hu55 := Try.underlying55
  have hu50 := Try.underlying50
  have HR0 := Aside0.mk hr0
  have HC0 := Aside0.mk hc0
  clear hr0 hc0
  have HB := Aside0.mk (Below.refl w.heap.size w)
  have H : (term_read.l0 k ([] : List (S55)) ([] : List (S55)) l0 (l0.length : Int) 0) = some (r1, r2, r3, r4, r5, r6) := h
  clear h
  have H' := Aside0.mk H
  clear H
  go_enter Try.func39, Try.ntmps39
  go_wp2_with (first | ((with_reducible refine gate_dst (N := 3) rfl ?_); (try (refine gate_guard (by rfl) ?_; dsimp only)); refine box_event ?hg (N := 3) ?hd (cs := #[.bool false, .bool false, .int .i64 0, .int .i64 0]) (t := 55) ?hr ?_; (case hd => rfl); (case hg => rfl); (case hr => first | (go_simp; done) | (go_simp; rfl)); intro gb105 hg w2 hbox hb; have n0_ := Aside0.mk (below_step (by repeat (first | (with_reducible first | exact HB.out | apply below_alloc | apply pw_below_drewN | apply below_drew1) | exact HB.out)) hb); have n1_ := Aside0.mk (hbox); have n2_ := Aside0.mk ((by rw [hg]; exact (below_size (by repeat (first | (with_reducible first | exact HB.out | apply below_alloc | apply pw_below_drewN | apply below_drew1) | exact HB.out))) : w.heap.size ≤ gb105)); have n3_ := Aside0.mk ((by rw [hg]; exact (below_size (by repeat (first | (with_reducible first | exact HB.out | apply below_alloc | apply pw_below_drewN | apply below_drew1) | exact HB.out))) : w.heap.size ≤ gb105)); clear HB; have HB := n0_; have BK105 := n1_; have GW105 := n2_; have GE105 := n3_; clear n0_ n1_ n2_ n3_; clear hb hbox hg))
  go_loopg [5, 6, 16] k (fun kq v5 v6 v16 w' => ∃ (x5_1 : List (S55)) (x6_1 : List (S55)) (x16_1 : Int) (x106000_1 : Bool) (x106001_1 : Bool) (x106002_1 : Int) (x106003_1 : Int), v16 = .int .i64 x16_1 ∧ Aside0 (term_read.l0 kq x5_1 x6_1 l0 (l0.length : Int) x16_1 = some (r1, r2, r3, r4, r5, r6)) ∧ Aside0 (kq ≤ k) ∧ Aside0 (Kd.R k55 55 w' w.heap.size (fun k_ => some k_ ≠ (v6 : Value).ownBlock ∧ k_ ≠ gb105) v5 x5_1) ∧ Aside0 (Kd.R k55 55 w' w.heap.size (fun k_ => some k_ ≠ (v5 : Value).ownBlock ∧ k_ ≠ gb105) v6 x6_1) ∧ Aside0 (w'.heap[gb105]? = some (.cells #[.bool x106000_1, .bool x106001_1, .int .i64 x106002_1, .int .i64 x106003_1] 55 (0, 0))) ∧ Aside0 (Below w.heap.size w w'))
  case atStart => exact ⟨(([] : List (S55))), (([] : List (S55))), (0), (false), (false), (0), (0), (by first | rfl | (simp; done) | (simp [*]; done)), H', ⟨Nat.le_refl _⟩, ⟨by first | exact Kd.R_nil _ _ _ _ _ | exact Kd.N_nil _ _ _ _ _ | exact Kd.V_nil _ _ _ _ _ | exact Kd.Q_nil _ _ _ _ _ | exact Kd.S_nil _ _ _ _ _⟩, ⟨by first | exact Kd.R_nil _ _ _ _ _ | exact Kd.N_nil _ _ _ _ _ | exact Kd.V_nil _ _ _ _ _ | exact Kd.Q_nil _ _ _ _ _ | exact Kd.S_nil _ _ _ _ _⟩, ⟨by (with_reducible repeat (first | refine blk_drewN ?_ _ | refine blk_drew ?_ | refine blk_alloc ?_ _)); exact BK105.out⟩, ⟨by repeat (first | (with_reducible first | exact HB.out | apply below_alloc | apply pw_below_drewN | apply below_drew1 | refine below_set ?_ GE105.out) | exact HB.out)⟩⟩
  case round =>
    clear H'
    try clear p2
    obtain ⟨x5_1, x6_1, x16_1, x106000_1, x106001_1, x106002_1, x106003_1, rfl, HA, HK1, HO_5, HO_6, BK105, HB⟩ := hrel
    cases gk with
    | zero => exact absurd HA.out (by simp [term_read.l0])
    | succ k1 =>
      have H := HA.out
      clear HA
      simp only [term_read.l0] at H
      by_cases c3 : x16_1 < (l0.length : Int)
      rotate_left
      · rw [if_neg c3] at H
        have c3b0 : decide (x16_1 < (l0.length : Int)) = false := decide_eq_false c3
        clear c3
        by_cases c93 : (x6_1.length : Int) = 1
        · rw [if_pos c93] at H
          have c93b0 : ((x6_1.length : Int) == 1) = true := beq_iff_eq.mpr c93
          have c93b1 : ((x6_1.length : Int) != 1) = false := bne_eq_false_iff_eq.mpr c93
          clear c93
          by_cases c94 : 0 < (x6_1.length : Int)
          · rw [if_pos c94] at H
            have c94b0 : decide (0 < (x6_1.length : Int)) = true := decide_eq_true c94
            have c94b1 : decide (0 < x6_1.length) = true := decide_eq_true (by omega)
            clear c94
            simp only [Option.some.injEq, Prod.mk.injEq] at H
            obtain ⟨rfl, rfl, rfl, rfl, rfl, rfl⟩ := H
            obtain ⟨Ao95, co95, eo95⟩ := Kd.R_slice HO_6.out
            subst eo95
            try go_wp2
            have n0_ := Aside0.mk (Kd.R_drew HO_5.out)
            have n1_ := Aside0.mk (Kd.R_drew HO_6.out)
            have n2_ := Aside0.mk (blk_drew BK105.out)
            have n3_ := Aside0.mk (below_drew1 HB.out)
            clear HO_5
            clear HO_6
            clear BK105
            clear HB
            have HO_5 := n0_
            have HO_6 := n1_
            have BK105 := n2_
            have HB := n3_
            clear n0_ n1_ n2_ n3_
            have p106 : 0 ≤ (0 : Int) := (by omega)
            have q106 : 0 < (x6_1.length : Int) := of_decide_eq_true (by first | (with_reducible assumption) | assumption)
            obtain ⟨ad106, e106, hx106_0, hx106_1, hx106_2, hx106_3⟩ := at_T55 (Kd.R_reads' HO_6.out).2.2 0 p106 q106
            cases e106
            have qi106 : (0 < x6_1.length) = True := eq_true (by omega)
            (try rw [show ((0 : Int)).toNat = 0 from rfl] at hx106_0)
            (try rw [show 0 * 4 = 0 from rfl] at hx106_0)
            (try rw [Addr.add_zero'] at hx106_0)
            (try rw [show ((0 : Int)).toNat = 0 from rfl] at hx106_1)
            (try rw [show 0 * 4 = 0 from rfl] at hx106_1)
            (try rw [Addr.add_zero'] at hx106_1)
            (try rw [show ((0 : Int)).toNat = 0 from rfl] at hx106_2)
            (try rw [show 0 * 4 = 0 from rfl] at hx106_2)
            (try rw [Addr.add_zero'] at hx106_2)
            (try rw [show ((0 : Int)).toNat = 0 from rfl] at hx106_3)
            (try rw [show 0 * 4 = 0 from rfl] at hx106_3)
            (try rw [Addr.add_zero'] at hx106_3)
            replace p106 := eq_true p106
            replace q106 := eq_true q106
            refine start_ (n := 7) (S := fun w' => w'.cell? ad106 = some (.bool ((rd_T55 x6_1 0).f0)) ∧ w'.cell? ⟨ad106.block, ad106.off + 1, none⟩ = some (.bool ((rd_T55 x6_1 0).f1)) ∧ w'.cell? ⟨ad106.block, ad106.off + 2, none⟩ = some (.int .i64 ((rd_T55 x6_1 0).f2)) ∧ w'.cell? ⟨ad106.block, ad106.off + 3, none⟩ = some (.int .i64 ((rd_T55 x6_1 0).f3))) (ds := []) #[false, false, false, false, false, false, false] (by kernel_rfl) rfl rfl ⟨hx106_0, hx106_1, hx106_2, hx106_3⟩ (fun hHeld => ?_)
            generalize wr.drew = w96 at HO_5 HO_6 BK105 HB hx106_0 hx106_1 hx106_2 hx106_3 hHeld ⊢
            refine pure_ (i := 0) (N := some 97) (v := ?_) (a' := ?_) #[true, false, false, false, false, false, false] rfl rfl (by kernel_rfl) (fun _ _ _ h => h) (Or.inl ⟨by rfl, ?_⟩) ?_ ?_
            rotate_left
            · intro w'
              go_simp
              with_reducible rfl
            rotate_left
            · simp only [Act.put, List.setIfInBounds_toArray, List.set_cons_zero, List.set_cons_succ, i64_w, i32_w]
              rfl
            refine pure_ (i := 1) (N := some 98) (v := ?_) (a' := ?_) #[true, true, false, false, false, false, false] rfl rfl (by kernel_rfl) (fun _ _ _ h => h) (Or.inl ⟨by rfl, ?_⟩) ?_ ?_
            rotate_left
            · intro w'
              go_simp
              with_reducible rfl
            rotate_left
            · simp only [Act.put, List.setIfInBounds_toArray, List.set_cons_zero, List.set_cons_succ, i64_w, i32_w]
              rfl
            refine pure_ (i := 2) (N := some 99) (v := ?_) (a' := ?_) #[true, true, true, false, false, false, false] rfl rfl (by kernel_rfl) (fun _ _ _ h => h) (Or.inl ⟨by rfl, ?_⟩) ?_ ?_
            rotate_left
            · intro w'
              go_simp
              with_reducible rfl
            rotate_left
            · simp only [Act.put, List.setIfInBounds_toArray, List.set_cons_zero, List.set_cons_succ, i64_w, i32_w]
              rfl
            refine pure_ (i := 4) (N := some 2) (v := ?_) (a' := ?_) #[true, true, true, false, true, false, false] rfl rfl (by kernel_rfl) (fun _ _ _ h => h) (Or.inl ⟨by rfl, ?_⟩) ?_ ?_
            rotate_left
            · intro w'
              go_simp
              with_reducible rfl
            rotate_left
            · simp only [Act.put, List.setIfInBounds_toArray, List.set_cons_zero, List.set_cons_succ, i64_w, i32_w]
              rfl
            refine take_ (i := 3) (N := some 100) (v := ?_) (a' := ?_) #[true, true, true, true, true, false, false] rfl rfl (by kernel_rfl) (fun _ _ _ h => h) (Or.inl ⟨by rfl, ?_⟩) hHeld ?_ ?_
            rotate_left
            · rintro w' ⟨s0, s1, s2, s3⟩
              go_simp
              with_reducible rfl
            rotate_left
            · simp only [Act.put, List.setIfInBounds_toArray, List.set_cons_zero, List.set_cons_succ, i64_w, i32_w]
              rfl
            refine one_ (i := 5) (N := none) #[true, true, true, true, true, true, false] rfl rfl (by kernel_rfl) (by decide) (fun K hK => ?_)
            have hs97 : w96.cell? ⟨gb105, 0, none⟩ = some (.bool x106000_1) := (blk_cell BK105.out 0).trans rfl
            have hfs97 := blk_frozen BK105.out 0
            have hs98 : w96.cell? ⟨gb105, 1, none⟩ = some (.bool x106001_1) := (blk_cell BK105.out 1).trans rfl
            have hfs98 := blk_frozen BK105.out 1
            have hs99 : w96.cell? ⟨gb105, 2, none⟩ = some (.int .i64 x106002_1) := (blk_cell BK105.out 2).trans rfl
            have hfs99 := blk_frozen BK105.out 2
            have hs100 : w96.cell? ⟨gb105, 3, none⟩ = some (.int .i64 x106003_1) := (blk_cell BK105.out 3).trans rfl
            have hfs100 := blk_frozen BK105.out 3
            refine skip_ (w1 := ?_) (by rfl) rfl ?_ ?_
            rotate_left
            · go_simp
              rfl
            refine hK.out _ _ ⟨((cell_far (p := ⟨gb105, _, none⟩) (by first | exact Kd.own_blk (Kd.R_away HO_6.out (fun _ hk => hk.2)) | (rw [add_block]; exact Kd.own_blk (Kd.R_away HO_6.out (fun _ hk => hk.2))) | (show (Addr.add _ _).block ≠ _; rw [add_block]; exact Kd.own_blk (Kd.R_away HO_6.out (fun _ hk => hk.2))) | (dsimp only; exact Kd.own_blk (Kd.R_away HO_6.out (fun _ hk => hk.2)))) _).trans (((cell_far (p := ⟨gb105, _, none⟩) (by first | exact Kd.own_blk (Kd.R_away HO_6.out (fun _ hk => hk.2)) | (rw [add_block]; exact Kd.own_blk (Kd.R_away HO_6.out (fun _ hk => hk.2))) | (show (Addr.add _ _).block ≠ _; rw [add_block]; exact Kd.own_blk (Kd.R_away HO_6.out (fun _ hk => hk.2))) | (dsimp only; exact Kd.own_blk (Kd.R_away HO_6.out (fun _ hk => hk.2)))) _).trans (((cell_far (p := ⟨gb105, _, none⟩) (by first | exact Kd.own_blk (Kd.R_away HO_6.out (fun _ hk => hk.2)) | (rw [add_block]; exact Kd.own_blk (Kd.R_away HO_6.out (fun _ hk => hk.2))) | (show (Addr.add _ _).block ≠ _; rw [add_block]; exact Kd.own_blk (Kd.R_away HO_6.out (fun _ hk => hk.2))) | (dsimp only; exact Kd.own_blk (Kd.R_away HO_6.out (fun _ hk => hk.2)))) _).trans (((cell_far (p := ⟨gb105, _, none⟩) (by first | exact Kd.own_blk (Kd.R_away HO_6.out (fun _ hk => hk.2)) | (rw [add_block]; exact Kd.own_blk (Kd.R_away HO_6.out (fun _ hk => hk.2))) | (show (Addr.add _ _).block ≠ _; rw [add_block]; exact Kd.own_blk (Kd.R_away HO_6.out (fun _ hk => hk.2))) | (dsimp only; exact Kd.own_blk (Kd.R_away HO_6.out (fun _ hk => hk.2)))) _).trans (hHeld.1)))))))), ((cell_far (p := ⟨gb105, _, none⟩) (by first | exact Kd.own_blk (Kd.R_away HO_6.out (fun _ hk => hk.2)) | (rw [add_block]; exact Kd.own_blk (Kd.R_away HO_6.out (fun _ hk => hk.2))) | (show (Addr.add _ _).block ≠ _; rw [add_block]; exact Kd.own_blk (Kd.R_away HO_6.out (fun _ hk => hk.2))) | (dsimp only; exact Kd.own_blk (Kd.R_away HO_6.out (fun _ hk => hk.2)))) _).trans (((cell_far (p := ⟨gb105, _, none⟩) (by first | exact Kd.own_blk (Kd.R_away HO_6.out (fun _ hk => hk.2)) | (rw [add_block]; exact Kd.own_blk (Kd.R_away HO_6.out (fun _ hk => hk.2))) | (show (Addr.add _ _).block ≠ _; rw [add_block]; exact Kd.own_blk (Kd.R_away HO_6.out (fun _ hk => hk.2))) | (dsimp only; exact Kd.own_blk (Kd.R_away HO_6.out (fun _ hk => hk.2)))) _).trans (((cell_far (p := ⟨gb105, _, none⟩) (by first | exact Kd.own_blk (Kd.R_away HO_6.out (fun _ hk => hk.2)) | (rw [add_block]; exact Kd.own_blk (Kd.R_away HO_6.out (fun _ hk => hk.2))) | (show (Addr.add _ _).block ≠ _; rw [add_block]; exact Kd.own_blk (Kd.R_away HO_6.out (fun _ hk => hk.2))) | (dsimp only; exact Kd.own_blk (Kd.R_away HO_6.out (fun _ hk => hk.2)))) _).trans (((cell_far (p := ⟨gb105, _, none⟩) (by first | exact Kd.own_blk (Kd.R_away HO_6.out (fun _ hk => hk.2)) | (rw [add_block]; exact Kd.own_blk (Kd.R_away HO_6.out (fun _ hk => hk.2))) | (show (Addr.add _ _).block ≠ _; rw [add_block]; exact Kd.own_blk (Kd.R_away HO_6.out (fun _ hk => hk.2))) | (dsimp only; exact Kd.own_blk (Kd.R_away HO_6.out (fun _ hk => hk.2)))) _).trans (hHeld.2.1)))))))), ((cell_far (p := ⟨gb105, _, none⟩) (by first | exact Kd.own_blk (Kd.R_away HO_6.out (fun _ hk => hk.2)) | (rw [add_block]; exact Kd.own_blk (Kd.R_away HO_6.out (fun _ hk => hk.2))) | (show (Addr.add _ _).block ≠ _; rw [add_block]; exact Kd.own_blk (Kd.R_away HO_6.out (fun _ hk => hk.2))) | (dsimp only; exact Kd.own_blk (Kd.R_away HO_6.out (fun _ hk => hk.2)))) _).trans (((cell_far (p := ⟨gb105, _, none⟩) (by first | exact Kd.own_blk (Kd.R_away HO_6.out (fun _ hk => hk.2)) | (rw [add_block]; exact Kd.own_blk (Kd.R_away HO_6.out (fun _ hk => hk.2))) | (show (Addr.add _ _).block ≠ _; rw [add_block]; exact Kd.own_blk (Kd.R_away HO_6.out (fun _ hk => hk.2))) | (dsimp only; exact Kd.own_blk (Kd.R_away HO_6.out (fun _ hk => hk.2)))) _).trans (((cell_far (p := ⟨gb105, _, none⟩) (by first | exact Kd.own_blk (Kd.R_away HO_6.out (fun _ hk => hk.2)) | (rw [add_block]; exact Kd.own_blk (Kd.R_away HO_6.out (fun _ hk => hk.2))) | (show (Addr.add _ _).block ≠ _; rw [add_block]; exact Kd.own_blk (Kd.R_away HO_6.out (fun _ hk => hk.2))) | (dsimp only; exact Kd.own_blk (Kd.R_away HO_6.out (fun _ hk => hk.2)))) _).trans (((cell_far (p := ⟨gb105, _, none⟩) (by first | exact Kd.own_blk (Kd.R_away HO_6.out (fun _ hk => hk.2)) | (rw [add_block]; exact Kd.own_blk (Kd.R_away HO_6.out (fun _ hk => hk.2))) | (show (Addr.add _ _).block ≠ _; rw [add_block]; exact Kd.own_blk (Kd.R_away HO_6.out (fun _ hk => hk.2))) | (dsimp only; exact Kd.own_blk (Kd.R_away HO_6.out (fun _ hk => hk.2)))) _).trans (hHeld.2.2.1)))))))), ((cell_far (p := ⟨gb105, _, none⟩) (by first | exact Kd.own_blk (Kd.R_away HO_6.out (fun _ hk => hk.2)) | (rw [add_block]; exact Kd.own_blk (Kd.R_away HO_6.out (fun _ hk => hk.2))) | (show (Addr.add _ _).block ≠ _; rw [add_block]; exact Kd.own_blk (Kd.R_away HO_6.out (fun _ hk => hk.2))) | (dsimp only; exact Kd.own_blk (Kd.R_away HO_6.out (fun _ hk => hk.2)))) _).trans (((cell_far (p := ⟨gb105, _, none⟩) (by first | exact Kd.own_blk (Kd.R_away HO_6.out (fun _ hk => hk.2)) | (rw [add_block]; exact Kd.own_blk (Kd.R_away HO_6.out (fun _ hk => hk.2))) | (show (Addr.add _ _).block ≠ _; rw [add_block]; exact Kd.own_blk (Kd.R_away HO_6.out (fun _ hk => hk.2))) | (dsimp only; exact Kd.own_blk (Kd.R_away HO_6.out (fun _ hk => hk.2)))) _).trans (((cell_far (p := ⟨gb105, _, none⟩) (by first | exact Kd.own_blk (Kd.R_away HO_6.out (fun _ hk => hk.2)) | (rw [add_block]; exact Kd.own_blk (Kd.R_away HO_6.out (fun _ hk => hk.2))) | (show (Addr.add _ _).block ≠ _; rw [add_block]; exact Kd.own_blk (Kd.R_away HO_6.out (fun _ hk => hk.2))) | (dsimp only; exact Kd.own_blk (Kd.R_away HO_6.out (fun _ hk => hk.2)))) _).trans (((cell_far (p := ⟨gb105, _, none⟩) (by first | exact Kd.own_blk (Kd.R_away HO_6.out (fun _ hk => hk.2)) | (rw [add_block]; exact Kd.own_blk (Kd.R_away HO_6.out (fun _ hk => hk.2))) | (show (Addr.add _ _).block ≠ _; rw [add_block]; exact Kd.own_blk (Kd.R_away HO_6.out (fun _ hk => hk.2))) | (dsimp only; exact Kd.own_blk (Kd.R_away HO_6.out (fun _ hk => hk.2)))) _).trans (hHeld.2.2.2))))))))⟩ (fun hHeld => ?_)
            clear hK K
            refine pure_ (i := 6) (N := some 4) (v := ?_) (a' := ?_) #[true, true, true, true, true, true, true] rfl rfl (by kernel_rfl) (fun _ _ _ h => h) (Or.inl ⟨by rfl, ?_⟩) ?_ ?_
            rotate_left
            · intro w'
              go_simp
              with_reducible rfl
            rotate_left
            · simp only [Act.put, List.setIfInBounds_toArray, List.set_cons_zero, List.set_cons_succ, i64_w, i32_w]
              rfl
            refine done_ (by kernel_rfl) ?_
            try go_wp2
            refine bodyPost_ret (results_list (rs := [.tmp 2, .cell 3 55, .tmp 4]) rfl (by simp) (.tmp (.cell gb105 55 #[.bool ((rd_T55 x6_1 0).f0), .bool ((rd_T55 x6_1 0).f1), .int .i64 ((rd_T55 x6_1 0).f2), .int .i64 ((rd_T55 x6_1 0).f3)] (0, 0) _ rfl (by (with_reducible repeat (first | refine blk_drewN ?_ _ | refine blk_drew ?_ | refine blk_alloc ?_ _)); refine blk_put (cs := #[.bool ((rd_T55 x6_1 0).f0), .bool ((rd_T55 x6_1 0).f1), .int .i64 ((rd_T55 x6_1 0).f2), .int .i64 x106003_1]) ?_ 3 _ rfl; (with_reducible repeat (first | refine blk_drewN ?_ _ | refine blk_drew ?_ | refine blk_alloc ?_ _)); refine blk_put (cs := #[.bool ((rd_T55 x6_1 0).f0), .bool ((rd_T55 x6_1 0).f1), .int .i64 x106002_1, .int .i64 x106003_1]) ?_ 2 _ rfl; (with_reducible repeat (first | refine blk_drewN ?_ _ | refine blk_drew ?_ | refine blk_alloc ?_ _)); refine blk_put (cs := #[.bool ((rd_T55 x6_1 0).f0), .bool x106001_1, .int .i64 x106002_1, .int .i64 x106003_1]) ?_ 1 _ rfl; (with_reducible repeat (first | refine blk_drewN ?_ _ | refine blk_drew ?_ | refine blk_alloc ?_ _)); refine blk_put (cs := #[.bool x106000_1, .bool x106001_1, .int .i64 x106002_1, .int .i64 x106003_1]) ?_ 0 _ rfl; (with_reducible repeat (first | refine blk_drewN ?_ _ | refine blk_drew ?_ | refine blk_alloc ?_ _)); exact BK105.out) Try.underlying55 rfl (by kernel_rfl) (.tmp .nil)))) rfl ?_
            exact ⟨_, by first | rfl | (simp [errW_none, errW_some] <;> rfl) | (simp [*, errW_none, errW_some] <;> rfl), by (with_reducible repeat (first | apply Kd.R_alloc | apply Kd.R_drewN | apply Kd.R_drew)); exact Kd.R_mono (Kd.R_far (p := ⟨gb105, 3, none⟩) (Kd.R_far (p := ⟨gb105, 2, none⟩) (Kd.R_far (p := ⟨gb105, 1, none⟩) (Kd.R_far (p := ⟨gb105, 0, none⟩) (Kd.R_mono HO_5.out (fun k_ hk => (⟨hk, hk.2⟩ : _ ∧ k_ ≠ gb105))) (fun _ hk => hk.2) (.bool ((rd_T55 x6_1 0).f0))) (fun _ hk => hk.2) (.bool ((rd_T55 x6_1 0).f1))) (fun _ hk => hk.2) (.int .i64 ((rd_T55 x6_1 0).f2))) (fun _ hk => hk.2) (.int .i64 ((rd_T55 x6_1 0).f3))) (fun _ hk => trivial), by repeat (first | (with_reducible first | exact HB.out | apply below_alloc | apply pw_below_drewN | apply below_drew1 | refine below_set ?_ GE105.out) | exact HB.out)⟩
          · rw [if_neg c94] at H
            exact absurd H (by simp)
        · rw [if_neg c93] at H
          have c93b0 : ((x6_1.length : Int) == 1) = false := beq_eq_false_iff_ne.mpr c93
          have c93b1 : ((x6_1.length : Int) != 1) = true := bne_iff_ne.mpr c93
          simp only [Option.some.injEq, Prod.mk.injEq] at H
          obtain ⟨rfl, rfl, rfl, rfl, rfl, rfl⟩ := H
          obtain ⟨Ao101, co101, eo101⟩ := Kd.R_slice HO_6.out
          subst eo101
          have hcz102_0 : wr.cell? ⟨gb105, 0, none⟩ = some (.bool x106000_1) := (blk_cell BK105.out 0).trans rfl
          have hcz102_1 : wr.cell? ⟨gb105, 1, none⟩ = some (.bool x106001_1) := (blk_cell BK105.out 1).trans rfl
          have hcz102_2 : wr.cell? ⟨gb105, 2, none⟩ = some (.int .i64 x106002_1) := (blk_cell BK105.out 2).trans rfl
          have hcz102_3 : wr.cell? ⟨gb105, 3, none⟩ = some (.int .i64 x106003_1) := (blk_cell BK105.out 3).trans rfl
          have hfz102_0 := blk_frozen BK105.out 0
          have hfz102_1 := blk_frozen BK105.out 1
          have hfz102_2 := blk_frozen BK105.out 2
          have hfz102_3 := blk_frozen BK105.out 3
          go_wp2
          refine bodyPost_ret (results_list (rs := [.tmp 2, .cell 3 55, .tmp 4]) rfl (by simp) (.tmp (.cell gb105 55 #[.bool false, .bool false, .int .i64 0, .int .i64 0] (0, 0) _ rfl (by (with_reducible repeat (first | refine blk_drewN ?_ _ | refine blk_drew ?_ | refine blk_alloc ?_ _)); refine blk_put (cs := #[.bool false, .bool false, .int .i64 0, .int .i64 x106003_1]) ?_ 3 _ rfl; (with_reducible repeat (first | refine blk_drewN ?_ _ | refine blk_drew ?_ | refine blk_alloc ?_ _)); refine blk_put (cs := #[.bool false, .bool false, .int .i64 x106002_1, .int .i64 x106003_1]) ?_ 2 _ rfl; (with_reducible repeat (first | refine blk_drewN ?_ _ | refine blk_drew ?_ | refine blk_alloc ?_ _)); refine blk_put (cs := #[.bool false, .bool x106001_1, .int .i64 x106002_1, .int .i64 x106003_1]) ?_ 1 _ rfl; (with_reducible repeat (first | refine blk_drewN ?_ _ | refine blk_drew ?_ | refine blk_alloc ?_ _)); refine blk_put (cs := #[.bool x106000_1, .bool x106001_1, .int .i64 x106002_1, .int .i64 x106003_1]) ?_ 0 _ rfl; (with_reducible repeat (first | refine blk_drewN ?_ _ | refine blk_drew ?_ | refine blk_alloc ?_ _)); exact BK105.out) Try.underlying55 rfl (by kernel_rfl) (.tmp .nil)))) rfl ?_
          exact ⟨_, by first | rfl | (simp [errW_none, errW_some] <;> rfl) | (simp [*, errW_none, errW_some] <;> rfl), by first | exact Kd.R_nil _ _ _ _ _ | exact Kd.N_nil _ _ _ _ _ | exact Kd.V_nil _ _ _ _ _ | exact Kd.Q_nil _ _ _ _ _ | exact Kd.S_nil _ _ _ _ _, by repeat (first | (with_reducible first | exact HB.out | apply below_alloc | apply pw_below_drewN | apply below_drew1 | refine below_set ?_ GE105.out) | exact HB.out)⟩

      · rw [if_pos c3] at H
        have c3b0 : decide (x16_1 < (l0.length : Int)) = true := decide_eq_true c3
        clear c3
        by_cases c4 : 0 ≤ x16_1
        · rw [if_pos c4] at H
          have c4b0 : decide (0 ≤ x16_1) = true := decide_eq_true c4
          clear c4
          by_cases c5 : x16_1 < (l0.length : Int)
          · rw [if_pos c5] at H
            have c5b0 : decide (x16_1 < (l0.length : Int)) = true := decide_eq_true c5
            clear c5
            replace H := Option.bind_eq_some_iff.mp H
            obtain ⟨t109, A60, H⟩ := H
            replace H : (if t109 < 0 then (term_read.j1 k1 x5_1 x6_1 x16_1 t109 l0 (l0.length : Int) x16_1 true ((rd_T50 l0 x16_1).f0) ((rd_T50 l0 x16_1).f1)) else (term_read.j1 k1 x5_1 x6_1 x16_1 t109 l0 (l0.length : Int) x16_1 (decide (t109 > (x6_1.length : Int))) ((rd_T50 l0 x16_1).f0) ((rd_T50 l0 x16_1).f1))) = some (r1, r2, r3, r4, r5, r6) := H
            have A6 := Aside0.mk A60
            clear A60
            have HC7 := Aside0.mk H
            clear H
            have p107 : 0 ≤ (x16_1 : Int) := of_decide_eq_true (by first | (with_reducible assumption) | assumption)
            have q107 : x16_1 < (l0.length : Int) := of_decide_eq_true (by first | (with_reducible assumption) | assumption)
            obtain ⟨ad107, e107, hx107_0, hx107_1⟩ := at_T50 HR0.out x16_1 p107 q107
            cases e107
            replace hx107_0 := (HB.out.cell (World.block_lt_of_cell? w _ hx107_0)).trans hx107_0
            replace hx107_1 := (HB.out.cell (World.block_lt_of_cell? w _ hx107_1)).trans hx107_1
            replace p107 := eq_true p107
            replace q107 := eq_true q107
            go_upto_region 6 with (first | ((with_reducible refine gate_dst (N := 8) rfl ?_); (try (refine gate_guard (by rfl) ?_; dsimp only)); refine box_event ?hg (N := 8) ?hd (cs := #[.int .u8 0, .int .u8 0]) (t := 50) ?hr ?_; (case hd => rfl); (case hg => rfl); (case hr => first | (go_simp; done) | (go_simp; rfl)); intro gb108 hg w8 hbox hb; have n0_ := Aside0.mk (Kd.R_below (by (with_reducible repeat (first | apply Kd.R_alloc | apply Kd.R_drewN | apply Kd.R_drew)); exact HO_5.out) hb); have n1_ := Aside0.mk (Kd.R_below (by (with_reducible repeat (first | apply Kd.R_alloc | apply Kd.R_drewN | apply Kd.R_drew)); exact HO_6.out) hb); have n2_ := Aside0.mk (blk_below (g := gb105) (o := .cells #[.bool x106000_1, .bool x106001_1, .int .i64 x106002_1, .int .i64 x106003_1] 55 (0, 0)) (by (with_reducible repeat (first | refine blk_drewN ?_ _ | refine blk_drew ?_ | refine blk_alloc ?_ _)); exact BK105.out) hb); have n3_ := Aside0.mk (below_step (by repeat (first | (with_reducible first | exact HB.out | apply below_alloc | apply pw_below_drewN | apply below_drew1 | refine below_set ?_ GE105.out) | exact HB.out)) hb); have n4_ := Aside0.mk (hbox); have n5_ := Aside0.mk ((by rw [hg]; exact (below_size (by repeat (first | (with_reducible first | exact HB.out | apply below_alloc | apply pw_below_drewN | apply below_drew1 | refine below_set ?_ GE105.out) | exact HB.out))) : w.heap.size ≤ gb108)); have n6_ := Aside0.mk ((by rw [hg]; exact (below_size (by repeat (first | (with_reducible first | exact HB.out | apply below_alloc | apply pw_below_drewN | apply below_drew1 | refine below_set ?_ GE105.out) | exact HB.out))) : w.heap.size ≤ gb108)); have n7_ := Aside0.mk ((by rw [hg]; exact Nat.ne_of_lt (blk_lt (g := gb105) (o := .cells #[.bool x106000_1, .bool x106001_1, .int .i64 x106002_1, .int .i64 x106003_1] 55 (0, 0)) (by (with_reducible repeat (first | refine blk_drewN ?_ _ | refine blk_drew ?_ | refine blk_alloc ?_ _)); exact BK105.out)) : gb105 ≠ gb108)); have n8_ := Aside0.mk ((by rw [hg]; exact Nat.ne_of_gt (blk_lt (g := gb105) (o := .cells #[.bool x106000_1, .bool x106001_1, .int .i64 x106002_1, .int .i64 x106003_1] 55 (0, 0)) (by (with_reducible repeat (first | refine blk_drewN ?_ _ | refine blk_drew ?_ | refine blk_alloc ?_ _)); exact BK105.out)) : gb108 ≠ gb105)); clear HO_5; clear HO_6; clear BK105; clear HB; have HO_5 := n0_; have HO_6 := n1_; have BK105 := n2_; have HB := n3_; have BK108 := n4_; have GW108 := n5_; have GE108 := n6_; have NB105_108 := n7_; have NB108_105 := n8_; clear n0_ n1_ n2_ n3_ n4_ n5_ n6_ n7_ n8_; clear hb hbox hg; have hnb9 := NB108_105.out; have hnc9 := NB105_108.out; have hcz10_0 : w8.cell? ⟨gb108, 0, none⟩ = some (.int .u8 0) := (blk_cell BK108.out 0).trans rfl; have hcz10_1 : w8.cell? ⟨gb108, 1, none⟩ = some (.int .u8 0) := (blk_cell BK108.out 1).trans rfl; have hfz10_0 := blk_frozen BK108.out 0; have hfz10_1 := blk_frozen BK108.out 1) | ((with_reducible refine gate_callee (f := 43) rfl ?_); refine goesL_ (some 22) rfl rfl Try.func43 (by kernel_rfl) rfl #[.agg #[.int .u8 ((rd_T50 l0 x16_1).f0), .int .u8 ((rd_T50 l0 x16_1).f1)]] rfl (by (try simp only [List.map_toArray, List.map_cons, List.map_nil]); first | done | rfl | (simp only [List.length_drop, List.length_take]; rfl)) ?_; (with_reducible refine (term_takes.calls k1 ((rd_T50 l0 x16_1).f0) ((rd_T50 l0 x16_1).f1) t109 _ A6.out).mono ?_); rintro e w11 ⟨rfl, hb⟩; refine ⟨_, rfl, ?_⟩; have n0_ := Aside0.mk (Kd.R_below (by (with_reducible repeat (first | apply Kd.R_alloc | apply Kd.R_drewN | apply Kd.R_drew)); exact (Kd.R_mono (Kd.R_far (p := ⟨gb108, 1, none⟩) (Kd.R_far (p := ⟨gb108, 0, none⟩) (Kd.R_types HO_5.out BK108.out (by decide)) (fun _ hk => hk.2) (.int .u8 ((rd_T50 l0 x16_1).f0))) (fun _ hk => hk.2) (.int .u8 ((rd_T50 l0 x16_1).f1))) (fun _ h_ => h_.1))) hb); have n1_ := Aside0.mk (Kd.R_below (by (with_reducible repeat (first | apply Kd.R_alloc | apply Kd.R_drewN | apply Kd.R_drew)); exact (Kd.R_mono (Kd.R_far (p := ⟨gb108, 1, none⟩) (Kd.R_far (p := ⟨gb108, 0, none⟩) (Kd.R_types HO_6.out BK108.out (by decide)) (fun _ hk => hk.2) (.int .u8 ((rd_T50 l0 x16_1).f0))) (fun _ hk => hk.2) (.int .u8 ((rd_T50 l0 x16_1).f1))) (fun _ h_ => h_.1))) hb); have n2_ := Aside0.mk (blk_below (g := gb105) (o := .cells #[.bool x106000_1, .bool x106001_1, .int .i64 x106002_1, .int .i64 x106003_1] 55 (0, 0)) (by (with_reducible repeat (first | refine blk_drewN ?_ _ | refine blk_drew ?_ | refine blk_alloc ?_ _)); refine blk_far ?_ NB105_108.out _; (with_reducible repeat (first | refine blk_drewN ?_ _ | refine blk_drew ?_ | refine blk_alloc ?_ _)); refine blk_far ?_ NB105_108.out _; (with_reducible repeat (first | refine blk_drewN ?_ _ | refine blk_drew ?_ | refine blk_alloc ?_ _)); exact BK105.out) hb); have n3_ := Aside0.mk (blk_below (g := gb108) (o := .cells #[.int .u8 ((rd_T50 l0 x16_1).f0), .int .u8 ((rd_T50 l0 x16_1).f1)] 50 (0, 0)) (by (with_reducible repeat (first | refine blk_drewN ?_ _ | refine blk_drew ?_ | refine blk_alloc ?_ _)); refine blk_put (cs := #[.int .u8 ((rd_T50 l0 x16_1).f0), .int .u8 0]) ?_ 1 _ rfl; (with_reducible repeat (first | refine blk_drewN ?_ _ | refine blk_drew ?_ | refine blk_alloc ?_ _)); refine blk_put (cs := #[.int .u8 0, .int .u8 0]) ?_ 0 _ rfl; (with_reducible repeat (first | refine blk_drewN ?_ _ | refine blk_drew ?_ | refine blk_alloc ?_ _)); exact BK108.out) hb); have n4_ := Aside0.mk (below_step (by repeat (first | (with_reducible first | exact HB.out | apply below_alloc | apply pw_below_drewN | apply below_drew1 | refine below_set ?_ GE105.out | refine below_set ?_ GE108.out) | exact HB.out)) hb); clear HO_5; clear HO_6; clear BK105; clear BK108; clear HB; have HO_5 := n0_; have HO_6 := n1_; have BK105 := n2_; have BK108 := n3_; have HB := n4_; clear n0_ n1_ n2_ n3_ n4_; (try clear hb); (try clear hb2); (try clear hk); (try clear hi)))
            (try simp only [Act.put, List.setIfInBounds_toArray, List.set_cons_zero, List.set_cons_succ])
            go_cut [30] (fun v30 wc => ∃ (kq : Nat) (x30_6 : Bool), v30 = .bool x30_6 ∧ Aside0 (term_read.j1 kq x5_1 x6_1 x16_1 t109 l0 (l0.length : Int) x16_1 x30_6 ((rd_T50 l0 x16_1).f0) ((rd_T50 l0 x16_1).f1) = some (r1, r2, r3, r4, r5, r6)) ∧ Aside0 (kq ≤ k1) ∧ Aside0 (Kd.R k55 55 wc w.heap.size (fun k_ => some k_ ≠ (u6 : Value).ownBlock ∧ k_ ≠ gb105) u5 x5_1) ∧ Aside0 (Kd.R k55 55 wc w.heap.size (fun k_ => some k_ ≠ (u5 : Value).ownBlock ∧ k_ ≠ gb105) u6 x6_1) ∧ Aside0 (wc.heap[gb105]? = some (.cells #[.bool x106000_1, .bool x106001_1, .int .i64 x106002_1, .int .i64 x106003_1] 55 (0, 0))) ∧ Aside0 (wc.heap[gb108]? = some (.cells #[.int .u8 ((rd_T50 l0 x16_1).f0), .int .u8 ((rd_T50 l0 x16_1).f1)] 50 (0, 0))) ∧ Aside0 (Below w.heap.size w wc))
            case first =>
              have H := HC7.out
              clear HC7
              by_cases c12 : t109 < 0
              · rw [if_pos c12] at H
                have c12b0 : decide (t109 < 0) = true := decide_eq_true c12
                clear c12
                (first | rw [c12b0] | (simp only [i64_w, i32_w]; rw [c12b0]) | skip)
                have H' := Aside0.mk H
                clear H
                go_wp2
                go_meet
                case rel => exact ⟨_, (true), (by first | rfl | (simp; done) | (simp [*]; done)), H', ⟨by have := HK1.out; first | omega | exact Nat.le_refl _⟩, ⟨by (with_reducible repeat (first | apply Kd.R_alloc | apply Kd.R_drewN | apply Kd.R_drew)); exact HO_5.out⟩, ⟨by (with_reducible repeat (first | apply Kd.R_alloc | apply Kd.R_drewN | apply Kd.R_drew)); exact HO_6.out⟩, ⟨by (with_reducible repeat (first | refine blk_drewN ?_ _ | refine blk_drew ?_ | refine blk_alloc ?_ _)); exact BK105.out⟩, ⟨by (with_reducible repeat (first | refine blk_drewN ?_ _ | refine blk_drew ?_ | refine blk_alloc ?_ _)); exact BK108.out⟩, ⟨by repeat (first | (with_reducible first | exact HB.out | apply below_alloc | apply pw_below_drewN | apply below_drew1 | refine below_set ?_ GE105.out | refine below_set ?_ GE108.out) | exact HB.out)⟩⟩
              · rw [if_neg c12] at H
                have c12b0 : decide (t109 < 0) = false := decide_eq_false c12
                clear c12
                (first | rw [c12b0] | (simp only [i64_w, i32_w]; rw [c12b0]) | skip)
                have H' := Aside0.mk H
                clear H
                obtain ⟨Ao13, co13, eo13⟩ := Kd.R_slice HO_6.out
                subst eo13
                go_wp2
                go_meet
                case rel => exact ⟨_, (decide (t109 > (x6_1.length : Int))), (by first | rfl | (simp; done) | (simp [*]; done)), H', ⟨by have := HK1.out; first | omega | exact Nat.le_refl _⟩, ⟨by (with_reducible repeat (first | apply Kd.R_alloc | apply Kd.R_drewN | apply Kd.R_drew)); exact HO_5.out⟩, ⟨by (with_reducible repeat (first | apply Kd.R_alloc | apply Kd.R_drewN | apply Kd.R_drew)); exact HO_6.out⟩, ⟨by (with_reducible repeat (first | refine blk_drewN ?_ _ | refine blk_drew ?_ | refine blk_alloc ?_ _)); exact BK105.out⟩, ⟨by (with_reducible repeat (first | refine blk_drewN ?_ _ | refine blk_drew ?_ | refine blk_alloc ?_ _)); exact BK108.out⟩, ⟨by repeat (first | (with_reducible first | exact HB.out | apply below_alloc | apply pw_below_drewN | apply below_drew1 | refine below_set ?_ GE105.out | refine below_set ?_ GE108.out) | exact HB.out)⟩⟩
            case rest =>
              clear HC7
              try clear c1
              try clear p1
              try clear q1
              try clear hx1
              try clear p2
              try clear c3
              try clear c3b0
              try clear c4
              try clear c4b0
              try clear c5
              try clear c5b0
              try clear c9
              try clear p10
              try clear q10
              try clear hx10
              try clear c12
              try clear c12b0
              try clear hcz10_0
              try clear hcz10_1
              try clear hfz10_0
              try clear hfz10_1
              try clear hx107_0
              try clear hx107_1
              try clear p107
              try clear p2
              try clear q107
              obtain ⟨kq, x30_6, rfl, HA, HJ6, HO_5, HO_6, BK105, BK108, HB⟩ := hcut
              cases kq with
              | zero => exact absurd HA.out (by simp [term_read.j1])
              | succ kj6 =>
                have H := HA.out
                clear HA
                simp only [term_read.j1] at H
                by_cases c14 : x30_6 = true
                · subst c14
                  have H1 : (some (([] : List (S55)), false, false, 0, 0, false)) = some (r1, r2, r3, r4, r5, r6) := by rw [if_pos rfl] at H; exact H
                  clear H
                  have H := H1
                  clear H1
                  simp only [Option.some.injEq, Prod.mk.injEq] at H
                  obtain ⟨rfl, rfl, rfl, rfl, rfl, rfl⟩ := H
                  have hnb15 := NB105_108.out
                  have hnc15 := NB108_105.out
                  have hcz16_0 : wc.cell? ⟨gb105, 0, none⟩ = some (.bool x106000_1) := (blk_cell BK105.out 0).trans rfl
                  have hcz16_1 : wc.cell? ⟨gb105, 1, none⟩ = some (.bool x106001_1) := (blk_cell BK105.out 1).trans rfl
                  have hcz16_2 : wc.cell? ⟨gb105, 2, none⟩ = some (.int .i64 x106002_1) := (blk_cell BK105.out 2).trans rfl
                  have hcz16_3 : wc.cell? ⟨gb105, 3, none⟩ = some (.int .i64 x106003_1) := (blk_cell BK105.out 3).trans rfl
                  have hfz16_0 := blk_frozen BK105.out 0
                  have hfz16_1 := blk_frozen BK105.out 1
                  have hfz16_2 := blk_frozen BK105.out 2
                  have hfz16_3 := blk_frozen BK105.out 3
                  go_wp2
                  refine bodyPost_ret (results_list (rs := [.tmp 2, .cell 3 55, .tmp 4]) rfl (by simp) (.tmp (.cell gb105 55 #[.bool false, .bool false, .int .i64 0, .int .i64 0] (0, 0) _ rfl (by (with_reducible repeat (first | refine blk_drewN ?_ _ | refine blk_drew ?_ | refine blk_alloc ?_ _)); refine blk_put (cs := #[.bool false, .bool false, .int .i64 0, .int .i64 x106003_1]) ?_ 3 _ rfl; (with_reducible repeat (first | refine blk_drewN ?_ _ | refine blk_drew ?_ | refine blk_alloc ?_ _)); refine blk_put (cs := #[.bool false, .bool false, .int .i64 x106002_1, .int .i64 x106003_1]) ?_ 2 _ rfl; (with_reducible repeat (first | refine blk_drewN ?_ _ | refine blk_drew ?_ | refine blk_alloc ?_ _)); refine blk_put (cs := #[.bool false, .bool x106001_1, .int .i64 x106002_1, .int .i64 x106003_1]) ?_ 1 _ rfl; (with_reducible repeat (first | refine blk_drewN ?_ _ | refine blk_drew ?_ | refine blk_alloc ?_ _)); refine blk_put (cs := #[.bool x106000_1, .bool x106001_1, .int .i64 x106002_1, .int .i64 x106003_1]) ?_ 0 _ rfl; (with_reducible repeat (first | refine blk_drewN ?_ _ | refine blk_drew ?_ | refine blk_alloc ?_ _)); exact BK105.out) Try.underlying55 rfl (by kernel_rfl) (.tmp .nil)))) rfl ?_
                  exact ⟨_, by first | rfl | (simp [errW_none, errW_some] <;> rfl) | (simp [*, errW_none, errW_some] <;> rfl), by first | exact Kd.R_nil _ _ _ _ _ | exact Kd.N_nil _ _ _ _ _ | exact Kd.V_nil _ _ _ _ _ | exact Kd.Q_nil _ _ _ _ _ | exact Kd.S_nil _ _ _ _ _, by repeat (first | (with_reducible first | exact HB.out | apply below_alloc | apply pw_below_drewN | apply below_drew1 | refine below_set ?_ GE105.out | refine below_set ?_ GE108.out) | exact HB.out)⟩
                · replace c14 := Bool.eq_false_iff.mpr c14
                  subst c14
                  have H1 : (if 0 ≤ (wrap64 ((x6_1.length : Int) - t109)) then (if (wrap64 ((x6_1.length : Int) - t109)) ≤ (x6_1.length : Int) then ((some (x6_1.drop ((wrap64 ((x6_1.length : Int) - t109)) : Int).toNat : List (S55))).bind fun y110 => ((term_fits.f ((rd_T50 l0 x16_1).f0) y110).bind fun t114 => (if t114 = true then ((term_plain.f ((rd_T50 l0 x16_1).f0)).bind fun t115 => (term_read.l1 kj6 x5_1 x6_1 t109 l0 (l0.length : Int) x16_1 y110 (y110.length : Int) 0 (decide (((rd_T50 l0 x16_1).f0) ≥ 19)) t115 1 x16_1)) else (some (([] : List (S55)), false, false, 0, 0, false))))) else (none)) else (none)) = some (r1, r2, r3, r4, r5, r6) := by rw [if_neg (show ¬ (false = true) by decide)] at H; exact H
                  clear H
                  have H := H1
                  clear H1
                  obtain ⟨ji17, hji17⟩ : ∃ j_ : Int, (wrap64 ((x6_1.length : Int) - t109)) = j_ := ⟨_, rfl⟩
                  replace H : (if 0 ≤ (ji17) then (if (ji17) ≤ (x6_1.length : Int) then ((some (x6_1.drop ((ji17) : Int).toNat : List (S55))).bind fun y110 => ((term_fits.f ((rd_T50 l0 x16_1).f0) y110).bind fun t114 => (if t114 = true then ((term_plain.f ((rd_T50 l0 x16_1).f0)).bind fun t115 => (term_read.l1 kj6 x5_1 x6_1 t109 l0 (l0.length : Int) x16_1 y110 (y110.length : Int) 0 (decide (((rd_T50 l0 x16_1).f0) ≥ 19)) t115 1 x16_1)) else (some (([] : List (S55)), false, false, 0, 0, false))))) else (none)) else (none)) = some (r1, r2, r3, r4, r5, r6) := by first | (rw [hji17] at H; exact H) | (simp only [hji17] at H ⊢; exact H)
                  have hji17w : (IntKind.i64.wrap ((x6_1.length : Int) - t109)) = ji17 := (i64_w _).trans hji17
                  by_cases c18 : 0 ≤ (ji17)
                  rotate_left
                  · rw [if_neg c18] at H
                    exact absurd H (by simp)
                  · rw [if_pos c18] at H
                    have c18b0 := eq_true c18
                    have c18b1 : decide (0 ≤ (ji17)) = true := decide_eq_true c18
                    clear c18
                    by_cases c19 : (ji17) ≤ (x6_1.length : Int)
                    rotate_left
                    · rw [if_neg c19] at H
                      exact absurd H (by simp)
                    · rw [if_pos c19] at H
                      have c19b0 := eq_true c19
                      have c19b1 : decide ((ji17) ≤ (x6_1.length : Int)) = true := decide_eq_true c19
                      clear c19
                      obtain ⟨y110, hy110⟩ : ∃ y_ : List (S55), y_ = (x6_1.drop ((ji17) : Int).toNat) := ⟨_, rfl⟩
                      replace H : ((term_fits.f ((rd_T50 l0 x16_1).f0) y110).bind fun t114 => (if t114 = true then ((term_plain.f ((rd_T50 l0 x16_1).f0)).bind fun t115 => (term_read.l1 kj6 x5_1 x6_1 t109 l0 (l0.length : Int) x16_1 y110 (y110.length : Int) 0 (decide (((rd_T50 l0 x16_1).f0) ≥ 19)) t115 1 x16_1)) else (some (([] : List (S55)), false, false, 0, 0, false)))) = some (r1, r2, r3, r4, r5, r6) := by first | (rw [hy110]; with_reducible exact H) | (have H2_ := (Option.bind_some _ _).symm.trans H; rw [hy110]; with_reducible exact H2_) | (have H2_ := (Option.bind_some _ _).symm.trans H; with_reducible exact H2_) | with_reducible exact H | (rw [hy110]; exact H) | exact H
                      have Ny110 := Aside0.mk hy110
                      clear hy110
                      replace H := Option.bind_eq_some_iff.mp H
                      obtain ⟨t114, A200, H⟩ := H
                      replace H : (if t114 = true then ((term_plain.f ((rd_T50 l0 x16_1).f0)).bind fun t115 => (term_read.l1 kj6 x5_1 x6_1 t109 l0 (l0.length : Int) x16_1 y110 (y110.length : Int) 0 (decide (((rd_T50 l0 x16_1).f0) ≥ 19)) t115 1 x16_1)) else (some (([] : List (S55)), false, false, 0, 0, false))) = some (r1, r2, r3, r4, r5, r6) := H
                      have A20 := Aside0.mk A200
                      clear A200
                      by_cases c21 : t114 = true
                      rotate_left
                      · replace c21 := Bool.eq_false_iff.mpr c21
                        subst c21
                        have H1 : (some (([] : List (S55)), false, false, 0, 0, false)) = some (r1, r2, r3, r4, r5, r6) := by rw [if_neg (show ¬ (false = true) by decide)] at H; exact H
                        clear H
                        have H := H1
                        clear H1
                        simp only [Option.some.injEq, Prod.mk.injEq] at H
                        obtain ⟨rfl, rfl, rfl, rfl, rfl, rfl⟩ := H
                        obtain ⟨Ao87, co87, eo87⟩ := Kd.R_slice HO_6.out
                        subst eo87
                        have q88 : ((ji17) : Int) ≤ ((x6_1.length : Int) : Int) := of_decide_eq_true (by first | (with_reducible assumption) | assumption)
                        obtain ⟨i088, hi088, _, hsz88, _⟩ := info_parts info55
                        have hroom88 : x6_1.length ≤ co87 := (Kd.R_reads' HO_6.out).2.1
                        have hC88 : Kd.C k55 _ Ao87 x6_1.length x6_1 := (Kd.R_reads' HO_6.out).2.2
                        have q088 : (0 : Int) ≤ ((ji17) : Int) := of_decide_eq_true (by first | (with_reducible assumption) | assumption)
                        have hcut88 := cut_from (P := Try.prog) 53 55 .i64 Try.underlying53 hi088 4 hsz88 Ao87 x6_1.length co87 (ji17) q088 q88
                        have hr88 := Kd.C_drop (m := ((ji17) : Int).toNat) (c := co87) hC88 (by omega) hroom88
                        obtain ⟨A88, hA88⟩ : ∃ A1, A1 = (if co87 = ((ji17) : Int).toNat then Ao87 else (Ao87 : Option Addr).map (·.add (((ji17) : Int).toNat * 4))) := ⟨_, rfl⟩
                        obtain ⟨c88, hc88⟩ : ∃ c1, c1 = co87 - ((ji17) : Int).toNat := ⟨_, rfl⟩
                        have hy88 : y110.length = x6_1.length - ((ji17) : Int).toNat := (by rw [Ny110.out, List.length_drop] <;> omega)
                        rw [show (x6_1).drop ((ji17) : Int).toNat = y110 from Ny110.out.symm] at hr88
                        replace hr88 : Kd.C k55 _ A88 y110.length y110 := (by rw [hA88]; exact hr88)
                        rw [← hy88, ← hA88, ← hc88] at hcut88
                        have HR113 := Aside0.mk hr88
                        have HC113 := Aside0.mk (show y110.length ≤ c88 from by rw [hy88, hc88]; exact Nat.sub_le_sub_right hroom88 _)
                        clear hr88 hC88 hroom88 hi088 hsz88 hc88
                        have KY88 := Aside0.mk hy88
                        have KA88 := Aside0.mk hA88
                        clear hy88 hA88
                        have KL88 := Aside0.mk (show ((ji17) : Int).toNat ≤ x6_1.length from by omega)
                        replace q88 := eq_true q88
                        have hnb89 := NB108_105.out
                        have hnc89 := NB105_108.out
                        have hcz90_0 : wc.cell? ⟨gb108, 0, none⟩ = some (.int .u8 ((rd_T50 l0 x16_1).f0)) := (blk_cell BK108.out 0).trans rfl
                        have hcz90_1 : wc.cell? ⟨gb108, 1, none⟩ = some (.int .u8 ((rd_T50 l0 x16_1).f1)) := (blk_cell BK108.out 1).trans rfl
                        have hfz90_0 := blk_frozen BK108.out 0
                        have hfz90_1 := blk_frozen BK108.out 1
                        go_wp2_with (first | ((with_reducible refine gate_callee (f := 52) rfl ?_); refine goesL_ (some 41) rfl rfl Try.func52 (by kernel_rfl) rfl #[.int .u8 ((rd_T50 l0 x16_1).f0), .slice A88 y110.length c88] rfl (by (try simp only [List.map_toArray, List.map_cons, List.map_nil]); first | done | rfl | (simp only [List.length_drop, List.length_take]; rfl)) ?_; (with_reducible refine (term_fits.calls ((rd_T50 l0 x16_1).f0) _ _ y110 false _ ?side1 ?side2 A20.out).mono ?_); (case side1 => repeat (first | exact (by repeat (first | (with_reducible exact HR113.out) | (with_reducible refine Kd.C_alloc ?_ _) | (with_reducible refine Kd.C_drewN ?_ _) | (with_reducible refine Kd.C_drew ?_) | exact HR113.out)) | (with_reducible refine Kd.C_alloc ?_ _) | (with_reducible refine Kd.C_drewN ?_ _) | (with_reducible refine Kd.C_drew ?_))); (case side2 => exact HC113.out); rintro e w91 ⟨rfl, hb⟩; refine ⟨_, rfl, ?_⟩; have n0_ := Aside0.mk (Kd.R_below (by (with_reducible repeat (first | apply Kd.R_alloc | apply Kd.R_drewN | apply Kd.R_drew)); exact HO_5.out) hb); have n1_ := Aside0.mk (Kd.R_below (by (with_reducible repeat (first | apply Kd.R_alloc | apply Kd.R_drewN | apply Kd.R_drew)); exact HO_6.out) hb); have n2_ := Aside0.mk (blk_below (g := gb105) (o := .cells #[.bool x106000_1, .bool x106001_1, .int .i64 x106002_1, .int .i64 x106003_1] 55 (0, 0)) (by (with_reducible repeat (first | refine blk_drewN ?_ _ | refine blk_drew ?_ | refine blk_alloc ?_ _)); exact BK105.out) hb); have n3_ := Aside0.mk (blk_below (g := gb108) (o := .cells #[.int .u8 ((rd_T50 l0 x16_1).f0), .int .u8 ((rd_T50 l0 x16_1).f1)] 50 (0, 0)) (by (with_reducible repeat (first | refine blk_drewN ?_ _ | refine blk_drew ?_ | refine blk_alloc ?_ _)); exact BK108.out) hb); have n4_ := Aside0.mk (Kd.C_below (by repeat (first | (with_reducible exact HR113.out) | (with_reducible refine Kd.C_alloc ?_ _) | (with_reducible refine Kd.C_drewN ?_ _) | (with_reducible refine Kd.C_drew ?_) | exact HR113.out)) hb); have n5_ := Aside0.mk (below_step (by repeat (first | (with_reducible first | exact HB.out | apply below_alloc | apply pw_below_drewN | apply below_drew1 | refine below_set ?_ GE105.out | refine below_set ?_ GE108.out) | exact HB.out)) hb); clear HO_5; clear HO_6; clear BK105; clear BK108; clear HR113; clear HB; have HO_5 := n0_; have HO_6 := n1_; have BK105 := n2_; have BK108 := n3_; have HR113 := n4_; have HB := n5_; clear n0_ n1_ n2_ n3_ n4_ n5_; (try clear hb); (try clear hb2); (try clear hk); (try clear hi); have hcz92_0 : w91.cell? ⟨gb105, 0, none⟩ = some (.bool x106000_1) := (blk_cell BK105.out 0).trans rfl; have hcz92_1 : w91.cell? ⟨gb105, 1, none⟩ = some (.bool x106001_1) := (blk_cell BK105.out 1).trans rfl; have hcz92_2 : w91.cell? ⟨gb105, 2, none⟩ = some (.int .i64 x106002_1) := (blk_cell BK105.out 2).trans rfl; have hcz92_3 : w91.cell? ⟨gb105, 3, none⟩ = some (.int .i64 x106003_1) := (blk_cell BK105.out 3).trans rfl; have hfz92_0 := blk_frozen BK105.out 0; have hfz92_1 := blk_frozen BK105.out 1; have hfz92_2 := blk_frozen BK105.out 2; have hfz92_3 := blk_frozen BK105.out 3))
                        refine bodyPost_ret (results_list (rs := [.tmp 2, .cell 3 55, .tmp 4]) rfl (by simp) (.tmp (.cell gb105 55 #[.bool false, .bool false, .int .i64 0, .int .i64 0] (0, 0) _ rfl (by (with_reducible repeat (first | refine blk_drewN ?_ _ | refine blk_drew ?_ | refine blk_alloc ?_ _)); refine blk_put (cs := #[.bool false, .bool false, .int .i64 0, .int .i64 x106003_1]) ?_ 3 _ rfl; (with_reducible repeat (first | refine blk_drewN ?_ _ | refine blk_drew ?_ | refine blk_alloc ?_ _)); refine blk_put (cs := #[.bool false, .bool false, .int .i64 x106002_1, .int .i64 x106003_1]) ?_ 2 _ rfl; (with_reducible repeat (first | refine blk_drewN ?_ _ | refine blk_drew ?_ | refine blk_alloc ?_ _)); refine blk_put (cs := #[.bool false, .bool x106001_1, .int .i64 x106002_1, .int .i64 x106003_1]) ?_ 1 _ rfl; (with_reducible repeat (first | refine blk_drewN ?_ _ | refine blk_drew ?_ | refine blk_alloc ?_ _)); refine blk_put (cs := #[.bool x106000_1, .bool x106001_1, .int .i64 x106002_1, .int .i64 x106003_1]) ?_ 0 _ rfl; (with_reducible repeat (first | refine blk_drewN ?_ _ | refine blk_drew ?_ | refine blk_alloc ?_ _)); exact BK105.out) Try.underlying55 rfl (by kernel_rfl) (.tmp .nil)))) rfl ?_
                        exact ⟨_, by first | rfl | (simp [errW_none, errW_some] <;> rfl) | (simp only [← hji17]; first | rfl | (simp [errW_none, errW_some] <;> rfl)) | (simp [*, errW_none, errW_some] <;> rfl), by first | exact Kd.R_nil _ _ _ _ _ | exact Kd.N_nil _ _ _ _ _ | exact Kd.V_nil _ _ _ _ _ | exact Kd.Q_nil _ _ _ _ _ | exact Kd.S_nil _ _ _ _ _, by repeat (first | (with_reducible first | exact HB.out | apply below_alloc | apply pw_below_drewN | apply below_drew1 | refine below_set ?_ GE105.out | refine below_set ?_ GE108.out) | exact HB.out)⟩
                      · subst c21
                        have H1 : ((term_plain.f ((rd_T50 l0 x16_1).f0)).bind fun t115 => (term_read.l1 kj6 x5_1 x6_1 t109 l0 (l0.length : Int) x16_1 y110 (y110.length : Int) 0 (decide (((rd_T50 l0 x16_1).f0) ≥ 19)) t115 1 x16_1)) = some (r1, r2, r3, r4, r5, r6) := by rw [if_pos rfl] at H; exact H
                        clear H
                        have H := H1
                        clear H1
                        replace H := Option.bind_eq_some_iff.mp H
                        obtain ⟨t115, A220, H⟩ := H
                        replace H : (term_read.l1 kj6 x5_1 x6_1 t109 l0 (l0.length : Int) x16_1 y110 (y110.length : Int) 0 (decide (((rd_T50 l0 x16_1).f0) ≥ 19)) t115 1 x16_1) = some (r1, r2, r3, r4, r5, r6) := H
                        have A22 := Aside0.mk A220
                        clear A220
                        have H' := Aside0.mk H
                        clear H
                        obtain ⟨Ao23, co23, eo23⟩ := Kd.R_slice HO_6.out
                        subst eo23
                        have q24 : ((ji17) : Int) ≤ ((x6_1.length : Int) : Int) := of_decide_eq_true (by first | (with_reducible assumption) | assumption)
                        obtain ⟨i024, hi024, _, hsz24, _⟩ := info_parts info55
                        have hroom24 : x6_1.length ≤ co23 := (Kd.R_reads' HO_6.out).2.1
                        have hC24 : Kd.C k55 _ Ao23 x6_1.length x6_1 := (Kd.R_reads' HO_6.out).2.2
                        have q024 : (0 : Int) ≤ ((ji17) : Int) := of_decide_eq_true (by first | (with_reducible assumption) | assumption)
                        have hcut24 := cut_from (P := Try.prog) 53 55 .i64 Try.underlying53 hi024 4 hsz24 Ao23 x6_1.length co23 (ji17) q024 q24
                        have hr24 := Kd.C_drop (m := ((ji17) : Int).toNat) (c := co23) hC24 (by omega) hroom24
                        obtain ⟨A24, hA24⟩ : ∃ A1, A1 = (if co23 = ((ji17) : Int).toNat then Ao23 else (Ao23 : Option Addr).map (·.add (((ji17) : Int).toNat * 4))) := ⟨_, rfl⟩
                        obtain ⟨c24, hc24⟩ : ∃ c1, c1 = co23 - ((ji17) : Int).toNat := ⟨_, rfl⟩
                        have hy24 : y110.length = x6_1.length - ((ji17) : Int).toNat := (by rw [Ny110.out, List.length_drop] <;> omega)
                        rw [show (x6_1).drop ((ji17) : Int).toNat = y110 from Ny110.out.symm] at hr24
                        replace hr24 : Kd.C k55 _ A24 y110.length y110 := (by rw [hA24]; exact hr24)
                        rw [← hy24, ← hA24, ← hc24] at hcut24
                        have HR113 := Aside0.mk hr24
                        have HC113 := Aside0.mk (show y110.length ≤ c24 from by rw [hy24, hc24]; exact Nat.sub_le_sub_right hroom24 _)
                        clear hr24 hC24 hroom24 hi024 hsz24 hc24
                        have KY24 := Aside0.mk hy24
                        have KA24 := Aside0.mk hA24
                        clear hy24 hA24
                        have KL24 := Aside0.mk (show ((ji17) : Int).toNat ≤ x6_1.length from by omega)
                        replace q24 := eq_true q24
                        have hnb25 := NB108_105.out
                        have hnc25 := NB105_108.out
                        have hcz26_0 : wc.cell? ⟨gb108, 0, none⟩ = some (.int .u8 ((rd_T50 l0 x16_1).f0)) := (blk_cell BK108.out 0).trans rfl
                        have hcz26_1 : wc.cell? ⟨gb108, 1, none⟩ = some (.int .u8 ((rd_T50 l0 x16_1).f1)) := (blk_cell BK108.out 1).trans rfl
                        have hfz26_0 := blk_frozen BK108.out 0
                        have hfz26_1 := blk_frozen BK108.out 1
                        try go_wp2_with (first | ((with_reducible refine gate_callee (f := 52) rfl ?_); refine goesL_ (some 41) rfl rfl Try.func52 (by kernel_rfl) rfl #[.int .u8 ((rd_T50 l0 x16_1).f0), .slice A24 y110.length c24] rfl (by (try simp only [List.map_toArray, List.map_cons, List.map_nil]); first | done | rfl | (simp only [List.length_drop, List.length_take]; rfl)) ?_; (with_reducible refine (term_fits.calls ((rd_T50 l0 x16_1).f0) _ _ y110 true _ ?side1 ?side2 A20.out).mono ?_); (case side1 => repeat (first | exact (by repeat (first | (with_reducible exact HR113.out) | (with_reducible refine Kd.C_alloc ?_ _) | (with_reducible refine Kd.C_drewN ?_ _) | (with_reducible refine Kd.C_drew ?_) | exact HR113.out)) | (with_reducible refine Kd.C_alloc ?_ _) | (with_reducible refine Kd.C_drewN ?_ _) | (with_reducible refine Kd.C_drew ?_))); (case side2 => exact HC113.out); rintro e w27 ⟨rfl, hb⟩; refine ⟨_, rfl, ?_⟩; have n0_ := Aside0.mk (Kd.R_below (by (with_reducible repeat (first | apply Kd.R_alloc | apply Kd.R_drewN | apply Kd.R_drew)); exact HO_5.out) hb); have n1_ := Aside0.mk (Kd.R_below (by (with_reducible repeat (first | apply Kd.R_alloc | apply Kd.R_drewN | apply Kd.R_drew)); exact HO_6.out) hb); have n2_ := Aside0.mk (blk_below (g := gb105) (o := .cells #[.bool x106000_1, .bool x106001_1, .int .i64 x106002_1, .int .i64 x106003_1] 55 (0, 0)) (by (with_reducible repeat (first | refine blk_drewN ?_ _ | refine blk_drew ?_ | refine blk_alloc ?_ _)); exact BK105.out) hb); have n3_ := Aside0.mk (blk_below (g := gb108) (o := .cells #[.int .u8 ((rd_T50 l0 x16_1).f0), .int .u8 ((rd_T50 l0 x16_1).f1)] 50 (0, 0)) (by (with_reducible repeat (first | refine blk_drewN ?_ _ | refine blk_drew ?_ | refine blk_alloc ?_ _)); exact BK108.out) hb); have n4_ := Aside0.mk (Kd.C_below (by repeat (first | (with_reducible exact HR113.out) | (with_reducible refine Kd.C_alloc ?_ _) | (with_reducible refine Kd.C_drewN ?_ _) | (with_reducible refine Kd.C_drew ?_) | exact HR113.out)) hb); have n5_ := Aside0.mk (below_step (by repeat (first | (with_reducible first | exact HB.out | apply below_alloc | apply pw_below_drewN | apply below_drew1 | refine below_set ?_ GE105.out | refine below_set ?_ GE108.out) | exact HB.out)) hb); clear HO_5; clear HO_6; clear BK105; clear BK108; clear HR113; clear HB; have HO_5 := n0_; have HO_6 := n1_; have BK105 := n2_; have BK108 := n3_; have HR113 := n4_; have HB := n5_; clear n0_ n1_ n2_ n3_ n4_ n5_; (try clear hb); (try clear hb2); (try clear hk); (try clear hi)))
                        have n0_ := Aside0.mk (Kd.R_drew HO_5.out)
                        have n1_ := Aside0.mk (Kd.R_drew HO_6.out)
                        have n2_ := Aside0.mk (blk_drew BK105.out)
                        have n3_ := Aside0.mk (blk_drew BK108.out)
                        have n4_ := Aside0.mk (Kd.C_drew HR113.out)
                        have n5_ := Aside0.mk (below_drew1 HB.out)
                        clear HO_5
                        clear HO_6
                        clear BK105
                        clear BK108
                        clear HR113
                        clear HB
                        have HO_5 := n0_
                        have HO_6 := n1_
                        have BK105 := n2_
                        have BK108 := n3_
                        have HR113 := n4_
                        have HB := n5_
                        clear n0_ n1_ n2_ n3_ n4_ n5_
                        refine start_ (n := 10) (S := fun w' => w'.cell? ⟨gb108, 0, none⟩ = some (.int .u8 ((rd_T50 l0 x16_1).f0)) ∧ w'.cell? ⟨gb108, 1, none⟩ = some (.int .u8 ((rd_T50 l0 x16_1).f1))) (ds := []) #[false, false, false, false, false, false, false, false, false, false] (by kernel_rfl) rfl rfl ⟨(blk_cell BK108.out 0).trans rfl, (blk_cell BK108.out 1).trans rfl⟩ (fun hHeld => ?_); refine with_tabW term_read.tab11 term_read.bits11 (fun HT_ HW_ => ?_)
                        generalize w27.drew = w28 at HO_5 HO_6 BK105 BK108 HR113 HB hHeld ⊢
                        refine pure_ (i := 0) (N := some 44) (v := ?_) (a' := ?_) #[true, false, false, false, false, false, false, false, false, false] rfl rfl (any_of HT_.out (by kernel_rfl)) (fun _ _ _ h => h) (Or.inl ⟨by rfl, ?_⟩) ?_ ?_
                        rotate_left
                        · intro w'
                          go_simp
                          with_reducible rfl
                        rotate_left
                        · simp only [Act.put, List.setIfInBounds_toArray, List.set_cons_zero, List.set_cons_succ, i64_w, i32_w]
                          rfl
                        refine pure_ (i := 3) (N := some 47) (v := ?_) (a' := ?_) #[true, false, false, true, false, false, false, false, false, false] rfl rfl (any_of HT_.out (by kernel_rfl)) (fun _ _ _ h => h) (Or.inl ⟨by rfl, ?_⟩) ?_ ?_
                        rotate_left
                        · intro w'
                          go_simp
                          with_reducible rfl
                        rotate_left
                        · simp only [Act.put, List.setIfInBounds_toArray, List.set_cons_zero, List.set_cons_succ, i64_w, i32_w]
                          rfl
                        refine pure_ (i := 6) (N := some 50) (v := ?_) (a' := ?_) #[true, false, false, true, false, false, true, false, false, false] rfl rfl (any_of HT_.out (by kernel_rfl)) (fun _ _ _ h => h) (Or.inl ⟨by rfl, ?_⟩) ?_ ?_
                        rotate_left
                        · intro w'
                          go_simp
                          with_reducible rfl
                        rotate_left
                        · simp only [Act.put, List.setIfInBounds_toArray, List.set_cons_zero, List.set_cons_succ, i64_w, i32_w]
                          rfl
                        refine take_ (i := 1) (N := some 45) (v := ?_) (a' := ?_) #[true, true, false, true, false, false, true, false, false, false] rfl rfl (take_ofW HT_.out HW_.out (by kernel_rfl)) (fun _ _ _ h => h) (Or.inl ⟨by rfl, ?_⟩) hHeld ?_ ?_
                        rotate_left
                        · rintro w' ⟨s0, s1⟩
                          go_simp
                          with_reducible rfl
                        rotate_left
                        · simp only [Act.put, List.setIfInBounds_toArray, List.set_cons_zero, List.set_cons_succ, i64_w, i32_w]
                          rfl
                        refine pure_ (i := 2) (N := some 46) (v := ?_) (a' := ?_) #[true, true, true, true, false, false, true, false, false, false] rfl rfl (any_of HT_.out (by kernel_rfl)) (fun _ _ _ h => h) (Or.inl ⟨by rfl, ?_⟩) ?_ ?_
                        rotate_left
                        · intro w'
                          go_simp
                          with_reducible rfl
                        rotate_left
                        · simp only [Act.put, List.setIfInBounds_toArray, List.set_cons_zero, List.set_cons_succ, i64_w, i32_w]
                          rfl
                        refine take_ (i := 4) (N := some 48) (v := ?_) (a' := ?_) #[true, true, true, true, true, false, true, false, false, false] rfl rfl (take_ofW HT_.out HW_.out (by kernel_rfl)) (fun _ _ _ h => h) (Or.inl ⟨by rfl, ?_⟩) hHeld ?_ ?_
                        rotate_left
                        · rintro w' ⟨s0, s1⟩
                          go_simp
                          with_reducible rfl
                        rotate_left
                        · simp only [Act.put, List.setIfInBounds_toArray, List.set_cons_zero, List.set_cons_succ, i64_w, i32_w]
                          rfl
                        refine join_ (σ := Nat) 1 #[true, true, true, true, true, true, true, true, true, false] (fun s_ => [(49, .bool t115), (11, .pointer (some ⟨s_, 0, none⟩)), (51, .agg #[.bool (decide (((rd_T50 l0 x16_1).f0) ≥ 19)), .bool t115, .int .i64 1, .int .i64 x16_1])]) (fun s_ w' => (w'.cell? ⟨gb108, 0, none⟩ = some (.int .u8 ((rd_T50 l0 x16_1).f0)) ∧ w'.cell? ⟨gb108, 1, none⟩ = some (.int .u8 ((rd_T50 l0 x16_1).f1))) ∧ (Kd.R k55 55 w' w.heap.size (fun k_ => some k_ ≠ (.slice Ao23 x6_1.length co23 : Value).ownBlock ∧ k_ ≠ gb105 ∧ k_ ≠ s_) u5 x5_1) ∧ (Kd.R k55 55 w' w.heap.size (fun k_ => some k_ ≠ (u5 : Value).ownBlock ∧ k_ ≠ gb105 ∧ k_ ≠ s_) (.slice Ao23 x6_1.length co23) x6_1) ∧ (w'.heap[gb105]? = some (.cells #[.bool x106000_1, .bool x106001_1, .int .i64 x106002_1, .int .i64 x106003_1] 55 (0, 0))) ∧ (w'.heap[gb108]? = some (.cells #[.int .u8 ((rd_T50 l0 x16_1).f0), .int .u8 ((rd_T50 l0 x16_1).f1)] 50 (0, 0))) ∧ (w'.heap[s_]? = some (.cells #[.bool false, .bool false, .int .i64 0, .int .i64 0] 55 (0, 0))) ∧ (w.heap.size ≤ s_) ∧ (w.heap.size ≤ s_) ∧ (gb105 ≠ s_) ∧ (s_ ≠ gb105) ∧ (gb108 ≠ s_) ∧ (s_ ≠ gb108) ∧ (Below w.heap.size w w')) ?_ ?_
                        rotate_left
                        · intro hCont
                          refine two_ (i := 5) (j := 8) (Ni := some 49) (Nj := some 11) #[true, true, true, true, true, true, true, false, false, false] #[true, true, true, true, true, false, true, false, true, false] rfl rfl rfl rfl (two_of HT_.out (by kernel_rfl)) (by decide) (by decide) (fun K hK => ?_) (fun K hK => ?_)
                          · skip
                            refine goes_ Try.func53 (by kernel_rfl) rfl #[.int .u8 ((rd_T50 l0 x16_1).f0)] (by rfl) rfl rfl (by (try simp only [List.map_toArray, List.map_cons, List.map_nil]); first | done | rfl | (simp only [List.length_drop, List.length_take]; rfl)) ?_
                            with_reducible refine (term_plain.calls ((rd_T50 l0 x16_1).f0) t115 _ A22.out).mono ?_
                            rintro e w' ⟨rfl, ⟨nd, rfl⟩⟩
                            refine ⟨_, rfl, ?_⟩
                            refine hK.out _ _ ⟨(blk_cell BK108.out 0).trans rfl, (blk_cell BK108.out 1).trans rfl⟩ (fun hHeld => ?_)
                            clear hK K
                            refine norm_ (a' := ?_) ?_ ?_
                            rotate_left
                            · show Act.put _ (some 49) _ = _
                              simp only [Act.put, List.setIfInBounds_toArray, List.set_cons_zero, List.set_cons_succ, i64_w, i32_w]
                              rfl
                            refine pure_ (i := 7) (N := some 51) (v := ?_) (a' := ?_) #[true, true, true, true, true, true, true, true, false, false] rfl rfl (any_of HT_.out (by kernel_rfl)) (fun _ _ _ h => h) (Or.inl ⟨by rfl, ?_⟩) ?_ ?_
                            rotate_left
                            · intro w'
                              go_simp
                              with_reducible rfl
                            rotate_left
                            · simp only [Act.put, List.setIfInBounds_toArray, List.set_cons_zero, List.set_cons_succ, i64_w, i32_w]
                              rfl
                            refine one_ (i := 8) (N := some 11) #[true, true, true, true, true, true, true, true, true, false] rfl rfl (one_of HT_.out (by kernel_rfl)) (by decide) (fun K hK => ?_)
                            refine box_step ?hg (N := 11) ?hd (cs := #[.bool false, .bool false, .int .i64 0, .int .i64 0]) (t := 55) ?hr ?_; (case hd => rfl); (case hg => rfl); (case hr => first | (go_simp; done) | (go_simp; rfl))
                            intro gb116 hg w29 hbox hb
                            have n0_ := Aside0.mk (Kd.R_below (Kd.R_elderB (by (with_reducible repeat (first | apply Kd.R_alloc | apply Kd.R_drewN | apply Kd.R_drew)); exact HO_5.out) gb116 (Nat.le_of_eq hg.symm)) hb)
                            have n1_ := Aside0.mk (Kd.R_below (Kd.R_elderB (by (with_reducible repeat (first | apply Kd.R_alloc | apply Kd.R_drewN | apply Kd.R_drew)); exact HO_6.out) gb116 (Nat.le_of_eq hg.symm)) hb)
                            have n2_ := Aside0.mk (blk_below (g := gb105) (o := .cells #[.bool x106000_1, .bool x106001_1, .int .i64 x106002_1, .int .i64 x106003_1] 55 (0, 0)) (by (with_reducible repeat (first | refine blk_drewN ?_ _ | refine blk_drew ?_ | refine blk_alloc ?_ _)); exact BK105.out) hb)
                            have n3_ := Aside0.mk (blk_below (g := gb108) (o := .cells #[.int .u8 ((rd_T50 l0 x16_1).f0), .int .u8 ((rd_T50 l0 x16_1).f1)] 50 (0, 0)) (by (with_reducible repeat (first | refine blk_drewN ?_ _ | refine blk_drew ?_ | refine blk_alloc ?_ _)); exact BK108.out) hb)
                            have n4_ := Aside0.mk (Kd.C_below (by repeat (first | (with_reducible exact HR113.out) | (with_reducible refine Kd.C_alloc ?_ _) | (with_reducible refine Kd.C_drewN ?_ _) | (with_reducible refine Kd.C_drew ?_) | exact HR113.out)) hb)
                            have n5_ := Aside0.mk (below_step (by repeat (first | (with_reducible first | exact HB.out | apply below_alloc | apply pw_below_drewN | apply below_drew1 | refine below_set ?_ GE105.out | refine below_set ?_ GE108.out) | exact HB.out)) hb)
                            have n6_ := Aside0.mk (hbox)
                            have n7_ := Aside0.mk ((by rw [hg]; exact (below_size (by repeat (first | (with_reducible first | exact HB.out | apply below_alloc | apply pw_below_drewN | apply below_drew1 | refine below_set ?_ GE105.out | refine below_set ?_ GE108.out) | exact HB.out))) : w.heap.size ≤ gb116))
                            have n8_ := Aside0.mk ((by rw [hg]; exact (below_size (by repeat (first | (with_reducible first | exact HB.out | apply below_alloc | apply pw_below_drewN | apply below_drew1 | refine below_set ?_ GE105.out | refine below_set ?_ GE108.out) | exact HB.out))) : w.heap.size ≤ gb116))
                            have n9_ := Aside0.mk ((by rw [hg]; exact Nat.ne_of_lt (blk_lt (g := gb105) (o := .cells #[.bool x106000_1, .bool x106001_1, .int .i64 x106002_1, .int .i64 x106003_1] 55 (0, 0)) (by (with_reducible repeat (first | refine blk_drewN ?_ _ | refine blk_drew ?_ | refine blk_alloc ?_ _)); exact BK105.out)) : gb105 ≠ gb116))
                            have n10_ := Aside0.mk ((by rw [hg]; exact Nat.ne_of_gt (blk_lt (g := gb105) (o := .cells #[.bool x106000_1, .bool x106001_1, .int .i64 x106002_1, .int .i64 x106003_1] 55 (0, 0)) (by (with_reducible repeat (first | refine blk_drewN ?_ _ | refine blk_drew ?_ | refine blk_alloc ?_ _)); exact BK105.out)) : gb116 ≠ gb105))
                            have n11_ := Aside0.mk ((by rw [hg]; exact Nat.ne_of_lt (blk_lt (g := gb108) (o := .cells #[.int .u8 ((rd_T50 l0 x16_1).f0), .int .u8 ((rd_T50 l0 x16_1).f1)] 50 (0, 0)) (by (with_reducible repeat (first | refine blk_drewN ?_ _ | refine blk_drew ?_ | refine blk_alloc ?_ _)); exact BK108.out)) : gb108 ≠ gb116))
                            have n12_ := Aside0.mk ((by rw [hg]; exact Nat.ne_of_gt (blk_lt (g := gb108) (o := .cells #[.int .u8 ((rd_T50 l0 x16_1).f0), .int .u8 ((rd_T50 l0 x16_1).f1)] 50 (0, 0)) (by (with_reducible repeat (first | refine blk_drewN ?_ _ | refine blk_drew ?_ | refine blk_alloc ?_ _)); exact BK108.out)) : gb116 ≠ gb108))
                            clear HO_5
                            clear HO_6
                            clear BK105
                            clear BK108
                            clear HR113
                            clear HB
                            have HO_5 := n0_
                            have HO_6 := n1_
                            have BK105 := n2_
                            have BK108 := n3_
                            have HR113 := n4_
                            have HB := n5_
                            have BK116 := n6_
                            have GW116 := n7_
                            have GE116 := n8_
                            have NB105_116 := n9_
                            have NB116_105 := n10_
                            have NB108_116 := n11_
                            have NB116_108 := n12_
                            clear n0_ n1_ n2_ n3_ n4_ n5_ n6_ n7_ n8_ n9_ n10_ n11_ n12_
                            clear hb hbox hg
                            refine hK.out _ _ ⟨(blk_cell BK108.out 0).trans rfl, (blk_cell BK108.out 1).trans rfl⟩ (fun hHeld => ?_)
                            clear hK K
                            refine norm_ (a' := ?_) ?_ ?_
                            rotate_left
                            · show Act.put _ (some 11) _ = _
                              simp only [Act.put, List.setIfInBounds_toArray, List.set_cons_zero, List.set_cons_succ, i64_w, i32_w]
                              rfl
                            exact norm_ (by simp only [putAll, Act.put, List.setIfInBounds_toArray, List.set_cons_zero, List.set_cons_succ]) (hCont (gb116) _ ⟨hHeld, (by (with_reducible repeat (first | apply Kd.R_alloc | apply Kd.R_drewN | apply Kd.R_drew)); exact Kd.R_mono HO_5.out (fun _ hk => ⟨hk.1.1, ⟨hk.1.2, hk.2⟩⟩)), (by (with_reducible repeat (first | apply Kd.R_alloc | apply Kd.R_drewN | apply Kd.R_drew)); exact Kd.R_mono HO_6.out (fun _ hk => ⟨hk.1.1, ⟨hk.1.2, hk.2⟩⟩)), (by (with_reducible repeat (first | refine blk_drewN ?_ _ | refine blk_drew ?_ | refine blk_alloc ?_ _)); exact BK105.out), (by (with_reducible repeat (first | refine blk_drewN ?_ _ | refine blk_drew ?_ | refine blk_alloc ?_ _)); exact BK108.out), (by (with_reducible repeat (first | refine blk_drewN ?_ _ | refine blk_drew ?_ | refine blk_alloc ?_ _)); exact BK116.out), GW116.out, GE116.out, NB105_116.out, NB116_105.out, NB108_116.out, NB116_108.out, (by repeat (first | (with_reducible first | exact HB.out | apply below_alloc | apply pw_below_drewN | apply below_drew1 | refine below_set ?_ GE105.out | refine below_set ?_ GE108.out | refine below_set ?_ GE116.out) | exact HB.out))⟩)
                          · skip
                            refine box_step ?hg (N := 11) ?hd (cs := #[.bool false, .bool false, .int .i64 0, .int .i64 0]) (t := 55) ?hr ?_; (case hd => rfl); (case hg => rfl); (case hr => first | (go_simp; done) | (go_simp; rfl))
                            intro gb116 hg w29 hbox hb
                            have n0_ := Aside0.mk (Kd.R_below (Kd.R_elderB (by (with_reducible repeat (first | apply Kd.R_alloc | apply Kd.R_drewN | apply Kd.R_drew)); exact HO_5.out) gb116 (Nat.le_of_eq hg.symm)) hb)
                            have n1_ := Aside0.mk (Kd.R_below (Kd.R_elderB (by (with_reducible repeat (first | apply Kd.R_alloc | apply Kd.R_drewN | apply Kd.R_drew)); exact HO_6.out) gb116 (Nat.le_of_eq hg.symm)) hb)
                            have n2_ := Aside0.mk (blk_below (g := gb105) (o := .cells #[.bool x106000_1, .bool x106001_1, .int .i64 x106002_1, .int .i64 x106003_1] 55 (0, 0)) (by (with_reducible repeat (first | refine blk_drewN ?_ _ | refine blk_drew ?_ | refine blk_alloc ?_ _)); exact BK105.out) hb)
                            have n3_ := Aside0.mk (blk_below (g := gb108) (o := .cells #[.int .u8 ((rd_T50 l0 x16_1).f0), .int .u8 ((rd_T50 l0 x16_1).f1)] 50 (0, 0)) (by (with_reducible repeat (first | refine blk_drewN ?_ _ | refine blk_drew ?_ | refine blk_alloc ?_ _)); exact BK108.out) hb)
                            have n4_ := Aside0.mk (Kd.C_below (by repeat (first | (with_reducible exact HR113.out) | (with_reducible refine Kd.C_alloc ?_ _) | (with_reducible refine Kd.C_drewN ?_ _) | (with_reducible refine Kd.C_drew ?_) | exact HR113.out)) hb)
                            have n5_ := Aside0.mk (below_step (by repeat (first | (with_reducible first | exact HB.out | apply below_alloc | apply pw_below_drewN | apply below_drew1 | refine below_set ?_ GE105.out | refine below_set ?_ GE108.out) | exact HB.out)) hb)
                            have n6_ := Aside0.mk (hbox)
                            have n7_ := Aside0.mk ((by rw [hg]; exact (below_size (by repeat (first | (with_reducible first | exact HB.out | apply below_alloc | apply pw_below_drewN | apply below_drew1 | refine below_set ?_ GE105.out | refine below_set ?_ GE108.out) | exact HB.out))) : w.heap.size ≤ gb116))
                            have n8_ := Aside0.mk ((by rw [hg]; exact (below_size (by repeat (first | (with_reducible first | exact HB.out | apply below_alloc | apply pw_below_drewN | apply below_drew1 | refine below_set ?_ GE105.out | refine below_set ?_ GE108.out) | exact HB.out))) : w.heap.size ≤ gb116))
                            have n9_ := Aside0.mk ((by rw [hg]; exact Nat.ne_of_lt (blk_lt (g := gb105) (o := .cells #[.bool x106000_1, .bool x106001_1, .int .i64 x106002_1, .int .i64 x106003_1] 55 (0, 0)) (by (with_reducible repeat (first | refine blk_drewN ?_ _ | refine blk_drew ?_ | refine blk_alloc ?_ _)); exact BK105.out)) : gb105 ≠ gb116))
                            have n10_ := Aside0.mk ((by rw [hg]; exact Nat.ne_of_gt (blk_lt (g := gb105) (o := .cells #[.bool x106000_1, .bool x106001_1, .int .i64 x106002_1, .int .i64 x106003_1] 55 (0, 0)) (by (with_reducible repeat (first | refine blk_drewN ?_ _ | refine blk_drew ?_ | refine blk_alloc ?_ _)); exact BK105.out)) : gb116 ≠ gb105))
                            have n11_ := Aside0.mk ((by rw [hg]; exact Nat.ne_of_lt (blk_lt (g := gb108) (o := .cells #[.int .u8 ((rd_T50 l0 x16_1).f0), .int .u8 ((rd_T50 l0 x16_1).f1)] 50 (0, 0)) (by (with_reducible repeat (first | refine blk_drewN ?_ _ | refine blk_drew ?_ | refine blk_alloc ?_ _)); exact BK108.out)) : gb108 ≠ gb116))
                            have n12_ := Aside0.mk ((by rw [hg]; exact Nat.ne_of_gt (blk_lt (g := gb108) (o := .cells #[.int .u8 ((rd_T50 l0 x16_1).f0), .int .u8 ((rd_T50 l0 x16_1).f1)] 50 (0, 0)) (by (with_reducible repeat (first | refine blk_drewN ?_ _ | refine blk_drew ?_ | refine blk_alloc ?_ _)); exact BK108.out)) : gb116 ≠ gb108))
                            clear HO_5
                            clear HO_6
                            clear BK105
                            clear BK108
                            clear HR113
                            clear HB
                            have HO_5 := n0_
                            have HO_6 := n1_
                            have BK105 := n2_
                            have BK108 := n3_
                            have HR113 := n4_
                            have HB := n5_
                            have BK116 := n6_
                            have GW116 := n7_
                            have GE116 := n8_
                            have NB105_116 := n9_
                            have NB116_105 := n10_
                            have NB108_116 := n11_
                            have NB116_108 := n12_
                            clear n0_ n1_ n2_ n3_ n4_ n5_ n6_ n7_ n8_ n9_ n10_ n11_ n12_
                            clear hb hbox hg
                            refine hK.out _ _ ⟨(blk_cell BK108.out 0).trans rfl, (blk_cell BK108.out 1).trans rfl⟩ (fun hHeld => ?_)
                            clear hK K
                            refine norm_ (a' := ?_) ?_ ?_
                            rotate_left
                            · show Act.put _ (some 11) _ = _
                              simp only [Act.put, List.setIfInBounds_toArray, List.set_cons_zero, List.set_cons_succ, i64_w, i32_w]
                              rfl
                            refine one_ (i := 5) (N := some 49) #[true, true, true, true, true, true, true, false, true, false] rfl rfl (one_of HT_.out (by kernel_rfl)) (by decide) (fun K hK => ?_)
                            refine goes_ Try.func53 (by kernel_rfl) rfl #[.int .u8 ((rd_T50 l0 x16_1).f0)] (by rfl) rfl rfl (by (try simp only [List.map_toArray, List.map_cons, List.map_nil]); first | done | rfl | (simp only [List.length_drop, List.length_take]; rfl)) ?_
                            with_reducible refine (term_plain.calls ((rd_T50 l0 x16_1).f0) t115 _ A22.out).mono ?_
                            rintro e w' ⟨rfl, ⟨nd, rfl⟩⟩
                            refine ⟨_, rfl, ?_⟩
                            refine hK.out _ _ ⟨(blk_cell BK108.out 0).trans rfl, (blk_cell BK108.out 1).trans rfl⟩ (fun hHeld => ?_)
                            clear hK K
                            refine norm_ (a' := ?_) ?_ ?_
                            rotate_left
                            · show Act.put _ (some 49) _ = _
                              simp only [Act.put, List.setIfInBounds_toArray, List.set_cons_zero, List.set_cons_succ, i64_w, i32_w]
                              rfl
                            refine pure_ (i := 7) (N := some 51) (v := ?_) (a' := ?_) #[true, true, true, true, true, true, true, true, true, false] rfl rfl (any_of HT_.out (by kernel_rfl)) (fun _ _ _ h => h) (Or.inl ⟨by rfl, ?_⟩) ?_ ?_
                            rotate_left
                            · intro w'
                              go_simp
                              with_reducible rfl
                            rotate_left
                            · simp only [Act.put, List.setIfInBounds_toArray, List.set_cons_zero, List.set_cons_succ, i64_w, i32_w]
                              rfl
                            exact norm_ (by simp only [putAll, Act.put, List.setIfInBounds_toArray, List.set_cons_zero, List.set_cons_succ]) (hCont (gb116) _ ⟨hHeld, (by (with_reducible repeat (first | apply Kd.R_alloc | apply Kd.R_drewN | apply Kd.R_drew)); exact Kd.R_mono HO_5.out (fun _ hk => ⟨hk.1.1, ⟨hk.1.2, hk.2⟩⟩)), (by (with_reducible repeat (first | apply Kd.R_alloc | apply Kd.R_drewN | apply Kd.R_drew)); exact Kd.R_mono HO_6.out (fun _ hk => ⟨hk.1.1, ⟨hk.1.2, hk.2⟩⟩)), (by (with_reducible repeat (first | refine blk_drewN ?_ _ | refine blk_drew ?_ | refine blk_alloc ?_ _)); exact BK105.out), (by (with_reducible repeat (first | refine blk_drewN ?_ _ | refine blk_drew ?_ | refine blk_alloc ?_ _)); exact BK108.out), (by (with_reducible repeat (first | refine blk_drewN ?_ _ | refine blk_drew ?_ | refine blk_alloc ?_ _)); exact BK116.out), GW116.out, GE116.out, NB105_116.out, NB116_105.out, NB108_116.out, NB116_108.out, (by repeat (first | (with_reducible first | exact HB.out | apply below_alloc | apply pw_below_drewN | apply below_drew1 | refine below_set ?_ GE105.out | refine below_set ?_ GE108.out | refine below_set ?_ GE116.out) | exact HB.out))⟩)
                        rintro gb116 w30 ⟨hS_, h0_, h1_, h2_, h3_, h4_, h5_, h6_, h7_, h8_, h9_, h10_, h11_⟩
                        have n0_ : Aside0 (Kd.R k55 55 w30 w.heap.size (fun k_ => some k_ ≠ (.slice Ao23 x6_1.length co23 : Value).ownBlock ∧ k_ ≠ gb105 ∧ k_ ≠ gb116) u5 x5_1) := ⟨h0_⟩
                        have n1_ : Aside0 (Kd.R k55 55 w30 w.heap.size (fun k_ => some k_ ≠ (u5 : Value).ownBlock ∧ k_ ≠ gb105 ∧ k_ ≠ gb116) (.slice Ao23 x6_1.length co23) x6_1) := ⟨h1_⟩
                        have n2_ : Aside0 (w30.heap[gb105]? = some (.cells #[.bool x106000_1, .bool x106001_1, .int .i64 x106002_1, .int .i64 x106003_1] 55 (0, 0))) := ⟨h2_⟩
                        have n3_ : Aside0 (w30.heap[gb108]? = some (.cells #[.int .u8 ((rd_T50 l0 x16_1).f0), .int .u8 ((rd_T50 l0 x16_1).f1)] 50 (0, 0))) := ⟨h3_⟩
                        have n4_ : Aside0 (w30.heap[gb116]? = some (.cells #[.bool false, .bool false, .int .i64 0, .int .i64 0] 55 (0, 0))) := ⟨h4_⟩
                        have n5_ : Aside0 (w.heap.size ≤ gb116) := ⟨h5_⟩
                        have n6_ : Aside0 (w.heap.size ≤ gb116) := ⟨h6_⟩
                        have n7_ : Aside0 (gb105 ≠ gb116) := ⟨h7_⟩
                        have n8_ : Aside0 (gb116 ≠ gb105) := ⟨h8_⟩
                        have n9_ : Aside0 (gb108 ≠ gb116) := ⟨h9_⟩
                        have n10_ : Aside0 (gb116 ≠ gb108) := ⟨h10_⟩
                        have n11_ : Aside0 (Below w.heap.size w w30) := ⟨h11_⟩
                        clear HO_5
                        clear HO_6
                        clear BK105
                        clear BK108
                        clear HR113
                        clear HB
                        clear h0_ h1_ h2_ h3_ h4_ h5_ h6_ h7_ h8_ h9_ h10_ h11_
                        have HO_5 := n0_
                        have HO_6 := n1_
                        have BK105 := n2_
                        have BK108 := n3_
                        have BK116 := n4_
                        have GW116 := n5_
                        have GE116 := n6_
                        have NB105_116 := n7_
                        have NB116_105 := n8_
                        have NB108_116 := n9_
                        have NB116_108 := n10_
                        have HB := n11_
                        clear n0_ n1_ n2_ n3_ n4_ n5_ n6_ n7_ n8_ n9_ n10_ n11_
                        have hHeld : w30.cell? ⟨gb108, 0, none⟩ = some (.int .u8 ((rd_T50 l0 x16_1).f0)) ∧ w30.cell? ⟨gb108, 1, none⟩ = some (.int .u8 ((rd_T50 l0 x16_1).f1)) := hS_
                        refine norm_ (a' := ?_) ?_ ?_
                        rotate_left
                        · simp only [putAll, Act.put, List.setIfInBounds_toArray, List.set_cons_zero, List.set_cons_succ]
                          rfl
                        refine one_ (i := 9) (N := none) #[true, true, true, true, true, true, true, true, true, true] rfl rfl (one_of HT_.out (by kernel_rfl)) (by decide) (fun K hK => ?_)
                        have hs31 : w30.cell? ⟨gb116, 0, none⟩ = some (.bool false) := (blk_cell BK116.out 0).trans rfl
                        have hfs31 := blk_frozen BK116.out 0
                        have hns31_0 := NB105_116.out
                        have hns31_1 := NB108_116.out
                        have hms31_0 := NB116_105.out
                        have hms31_1 := NB116_108.out
                        have hs32 : w30.cell? ⟨gb116, 1, none⟩ = some (.bool false) := (blk_cell BK116.out 1).trans rfl
                        have hfs32 := blk_frozen BK116.out 1
                        have hns32_0 := NB105_116.out
                        have hns32_1 := NB108_116.out
                        have hms32_0 := NB116_105.out
                        have hms32_1 := NB116_108.out
                        have hs33 : w30.cell? ⟨gb116, 2, none⟩ = some (.int .i64 0) := (blk_cell BK116.out 2).trans rfl
                        have hfs33 := blk_frozen BK116.out 2
                        have hns33_0 := NB105_116.out
                        have hns33_1 := NB108_116.out
                        have hms33_0 := NB116_105.out
                        have hms33_1 := NB116_108.out
                        have hs34 : w30.cell? ⟨gb116, 3, none⟩ = some (.int .i64 0) := (blk_cell BK116.out 3).trans rfl
                        have hfs34 := blk_frozen BK116.out 3
                        have hns34_0 := NB105_116.out
                        have hns34_1 := NB108_116.out
                        have hms34_0 := NB116_105.out
                        have hms34_1 := NB116_108.out
                        refine skip_ (w1 := ?_) (by rfl) rfl ?_ ?_
                        rotate_left
                        · go_simp
                          rfl
                        refine hK.out _ _ ⟨((cell_far (p := ⟨gb116, _, none⟩) NB108_116.out _).trans (((cell_far (p := ⟨gb116, _, none⟩) NB108_116.out _).trans (((cell_far (p := ⟨gb116, _, none⟩) NB108_116.out _).trans (((cell_far (p := ⟨gb116, _, none⟩) NB108_116.out _).trans (hHeld.1)))))))), ((cell_far (p := ⟨gb116, _, none⟩) NB108_116.out _).trans (((cell_far (p := ⟨gb116, _, none⟩) NB108_116.out _).trans (((cell_far (p := ⟨gb116, _, none⟩) NB108_116.out _).trans (((cell_far (p := ⟨gb116, _, none⟩) NB108_116.out _).trans (hHeld.2))))))))⟩ (fun hHeld => ?_)
                        clear hK K
                        refine done_ (done_of HT_.out (by kernel_rfl)) ?_
                        try go_wp2
                        go_loopg [54] kj6 (fun kq v54 w' => ∃ (x54_3 : Int) (x117001_3 : Bool) (x117002_3 : Int) (x117003_3 : Int), v54 = .int .i64 x54_3 ∧ Aside0 (term_read.l1 kq x5_1 x6_1 t109 l0 (l0.length : Int) x16_1 y110 (y110.length : Int) x54_3 (decide (((rd_T50 l0 x16_1).f0) ≥ 19)) x117001_3 x117002_3 x117003_3 = some (r1, r2, r3, r4, r5, r6)) ∧ Aside0 (kq ≤ kj6) ∧ Aside0 (Kd.R k55 55 w' w.heap.size (fun k_ => some k_ ≠ ((.slice Ao23 x6_1.length co23) : Value).ownBlock ∧ k_ ≠ gb105 ∧ k_ ≠ gb116) u5 x5_1) ∧ Aside0 (Kd.R k55 55 w' w.heap.size (fun k_ => some k_ ≠ (u5 : Value).ownBlock ∧ k_ ≠ gb105 ∧ k_ ≠ gb116) (.slice Ao23 x6_1.length co23) x6_1) ∧ Aside0 (w'.heap[gb105]? = some (.cells #[.bool x106000_1, .bool x106001_1, .int .i64 x106002_1, .int .i64 x106003_1] 55 (0, 0))) ∧ Aside0 (w'.heap[gb108]? = some (.cells #[.int .u8 ((rd_T50 l0 x16_1).f0), .int .u8 ((rd_T50 l0 x16_1).f1)] 50 (0, 0))) ∧ Aside0 (w'.heap[gb116]? = some (.cells #[.bool (decide (((rd_T50 l0 x16_1).f0) ≥ 19)), .bool x117001_3, .int .i64 x117002_3, .int .i64 x117003_3] 55 (0, 0))) ∧ Aside0 (Below w.heap.size w w'))
                        case atStart => exact ⟨(0), (t115), (1), (x16_1), (by first | rfl | (simp; done) | (simp [*]; done)), H', ⟨Nat.le_refl _⟩, ⟨by (with_reducible repeat (first | apply Kd.R_alloc | apply Kd.R_drewN | apply Kd.R_drew)); exact Kd.R_mono (Kd.R_far (p := ⟨gb116, 3, none⟩) (Kd.R_far (p := ⟨gb116, 2, none⟩) (Kd.R_far (p := ⟨gb116, 1, none⟩) (Kd.R_far (p := ⟨gb116, 0, none⟩) (Kd.R_mono HO_5.out (fun k_ hk => (⟨hk, hk.2.2⟩ : _ ∧ k_ ≠ gb116))) (fun _ hk => hk.2) (.bool (decide (((rd_T50 l0 x16_1).f0) ≥ 19)))) (fun _ hk => hk.2) (.bool t115)) (fun _ hk => hk.2) (.int .i64 1)) (fun _ hk => hk.2) (.int .i64 x16_1)) (fun _ hk => ⟨hk.1.1, ⟨hk.1.2.1, hk.1.2.2⟩⟩)⟩, ⟨by (with_reducible repeat (first | apply Kd.R_alloc | apply Kd.R_drewN | apply Kd.R_drew)); exact Kd.R_mono (Kd.R_far (p := ⟨gb116, 3, none⟩) (Kd.R_far (p := ⟨gb116, 2, none⟩) (Kd.R_far (p := ⟨gb116, 1, none⟩) (Kd.R_far (p := ⟨gb116, 0, none⟩) (Kd.R_mono HO_6.out (fun k_ hk => (⟨hk, hk.2.2⟩ : _ ∧ k_ ≠ gb116))) (fun _ hk => hk.2) (.bool (decide (((rd_T50 l0 x16_1).f0) ≥ 19)))) (fun _ hk => hk.2) (.bool t115)) (fun _ hk => hk.2) (.int .i64 1)) (fun _ hk => hk.2) (.int .i64 x16_1)) (fun _ hk => ⟨hk.1.1, ⟨hk.1.2.1, hk.1.2.2⟩⟩)⟩, ⟨by (with_reducible repeat (first | refine blk_drewN ?_ _ | refine blk_drew ?_ | refine blk_alloc ?_ _)); refine blk_far ?_ NB105_116.out _; (with_reducible repeat (first | refine blk_drewN ?_ _ | refine blk_drew ?_ | refine blk_alloc ?_ _)); refine blk_far ?_ NB105_116.out _; (with_reducible repeat (first | refine blk_drewN ?_ _ | refine blk_drew ?_ | refine blk_alloc ?_ _)); refine blk_far ?_ NB105_116.out _; (with_reducible repeat (first | refine blk_drewN ?_ _ | refine blk_drew ?_ | refine blk_alloc ?_ _)); refine blk_far ?_ NB105_116.out _; (with_reducible repeat (first | refine blk_drewN ?_ _ | refine blk_drew ?_ | refine blk_alloc ?_ _)); exact BK105.out⟩, ⟨by (with_reducible repeat (first | refine blk_drewN ?_ _ | refine blk_drew ?_ | refine blk_alloc ?_ _)); refine blk_far ?_ NB108_116.out _; (with_reducible repeat (first | refine blk_drewN ?_ _ | refine blk_drew ?_ | refine blk_alloc ?_ _)); refine blk_far ?_ NB108_116.out _; (with_reducible repeat (first | refine blk_drewN ?_ _ | refine blk_drew ?_ | refine blk_alloc ?_ _)); refine blk_far ?_ NB108_116.out _; (with_reducible repeat (first | refine blk_drewN ?_ _ | refine blk_drew ?_ | refine blk_alloc ?_ _)); refine blk_far ?_ NB108_116.out _; (with_reducible repeat (first | refine blk_drewN ?_ _ | refine blk_drew ?_ | refine blk_alloc ?_ _)); exact BK108.out⟩, ⟨by (with_reducible repeat (first | refine blk_drewN ?_ _ | refine blk_drew ?_ | refine blk_alloc ?_ _)); refine blk_put (cs := #[.bool (decide (((rd_T50 l0 x16_1).f0) ≥ 19)), .bool t115, .int .i64 1, .int .i64 0]) ?_ 3 _ rfl; (with_reducible repeat (first | refine blk_drewN ?_ _ | refine blk_drew ?_ | refine blk_alloc ?_ _)); refine blk_put (cs := #[.bool (decide (((rd_T50 l0 x16_1).f0) ≥ 19)), .bool t115, .int .i64 0, .int .i64 0]) ?_ 2 _ rfl; (with_reducible repeat (first | refine blk_drewN ?_ _ | refine blk_drew ?_ | refine blk_alloc ?_ _)); refine blk_put (cs := #[.bool (decide (((rd_T50 l0 x16_1).f0) ≥ 19)), .bool false, .int .i64 0, .int .i64 0]) ?_ 1 _ rfl; (with_reducible repeat (first | refine blk_drewN ?_ _ | refine blk_drew ?_ | refine blk_alloc ?_ _)); refine blk_put (cs := #[.bool false, .bool false, .int .i64 0, .int .i64 0]) ?_ 0 _ rfl; (with_reducible repeat (first | refine blk_drewN ?_ _ | refine blk_drew ?_ | refine blk_alloc ?_ _)); exact BK116.out⟩, ⟨by repeat (first | (with_reducible first | exact HB.out | apply below_alloc | apply pw_below_drewN | apply below_drew1 | refine below_set ?_ GE105.out | refine below_set ?_ GE108.out | refine below_set ?_ GE116.out) | exact HB.out)⟩⟩
                        case round =>
                          clear H'
                          try clear c1
                          try clear p1
                          try clear q1
                          try clear hx1
                          try clear c2
                          try clear p2
                          try clear q2
                          try clear c3
                          try clear c3b0
                          try clear c4
                          try clear c4b0
                          try clear c5
                          try clear c5b0
                          try clear p6
                          try clear c9
                          try clear p10
                          try clear q10
                          try clear hx10
                          try clear c12
                          try clear c12b0
                          try clear c14
                          try clear c15
                          try clear c18
                          try clear c18b0
                          try clear c18b1
                          try clear c19
                          try clear c19b0
                          try clear c19b1
                          try clear c21
                          try clear c24
                          try clear q24
                          try clear c25
                          try clear hcz10_0
                          try clear hcz10_1
                          try clear hcz16_0
                          try clear hcz16_1
                          try clear hcz16_2
                          try clear hcz16_3
                          try clear hcz26_0
                          try clear hcz26_1
                          try clear hfz10_0
                          try clear hfz10_1
                          try clear hfz16_0
                          try clear hfz16_1
                          try clear hfz16_2
                          try clear hfz16_3
                          try clear hfz26_0
                          try clear hfz26_1
                          try clear hx107_0
                          try clear hx107_1
                          try clear p1
                          try clear p10
                          try clear p107
                          try clear p2
                          try clear q024
                          try clear q1
                          try clear q10
                          try clear q107
                          try clear q24
                          obtain ⟨x54_3, x117001_3, x117002_3, x117003_3, rfl, HA, HK3, HO_5, HO_6, BK105, BK108, BK116, HB⟩ := hrel
                          cases gk with
                          | zero => exact absurd HA.out (by simp [term_read.l1])
                          | succ k3 =>
                            have H := HA.out
                            clear HA
                            simp only [term_read.l1] at H
                            by_cases c35 : x54_3 < (y110.length : Int)
                            rotate_left
                            · rw [if_neg c35] at H
                              have c35b0 : decide (x54_3 < (y110.length : Int)) = false := decide_eq_false c35
                              clear c35
                              obtain ⟨ji75, hji75⟩ : ∃ j_ : Int, (wrap64 ((x6_1.length : Int) - t109)) = j_ := ⟨_, rfl⟩
                              replace H : (if 0 ≤ (ji75) then (if (ji75) ≤ (x6_1.length : Int) then ((some (x6_1.take ((ji75) : Int).toNat : List (S55))).bind fun y119 => (if y119.length < 5864062014805 then (if x5_1.length < 5864062014805 then (term_read.l0 k3 (x5_1 ++ [(⟨(decide (((rd_T50 l0 x16_1).f0) ≥ 19)), x117001_3, x117002_3, x117003_3⟩ : S55)]) (y119 ++ [(⟨(decide (((rd_T50 l0 x16_1).f0) ≥ 19)), x117001_3, x117002_3, x117003_3⟩ : S55)]) l0 (l0.length : Int) (wrap64 (x16_1 + 1))) else (none)) else (none))) else (none)) else (none)) = some (r1, r2, r3, r4, r5, r6) := by first | (rw [hji75] at H; exact H) | (simp only [hji75] at H ⊢; exact H)
                              have hji75w : (IntKind.i64.wrap ((x6_1.length : Int) - t109)) = ji75 := (i64_w _).trans hji75
                              obtain rfl : ji75 = ji17 := hji75.symm.trans hji17
                              by_cases c76 : 0 ≤ (ji75)
                              · rw [if_pos c76] at H
                                have c76b0 := eq_true c76
                                have c76b1 : decide (0 ≤ (ji75)) = true := decide_eq_true c76
                                clear c76
                                by_cases c77 : (ji75) ≤ (x6_1.length : Int)
                                · rw [if_pos c77] at H
                                  have c77b0 := eq_true c77
                                  have c77b1 : decide ((ji75) ≤ (x6_1.length : Int)) = true := decide_eq_true c77
                                  clear c77
                                  obtain ⟨y119, hy119⟩ : ∃ y_ : List (S55), y_ = (x6_1.take ((ji75) : Int).toNat) := ⟨_, rfl⟩
                                  replace H : (if y119.length < 5864062014805 then (if x5_1.length < 5864062014805 then (term_read.l0 k3 (x5_1 ++ [(⟨(decide (((rd_T50 l0 x16_1).f0) ≥ 19)), x117001_3, x117002_3, x117003_3⟩ : S55)]) (y119 ++ [(⟨(decide (((rd_T50 l0 x16_1).f0) ≥ 19)), x117001_3, x117002_3, x117003_3⟩ : S55)]) l0 (l0.length : Int) (wrap64 (x16_1 + 1))) else (none)) else (none)) = some (r1, r2, r3, r4, r5, r6) := by first | (rw [hy119]; with_reducible exact H) | (have H2_ := (Option.bind_some _ _).symm.trans H; rw [hy119]; with_reducible exact H2_) | (have H2_ := (Option.bind_some _ _).symm.trans H; with_reducible exact H2_) | with_reducible exact H | (rw [hy119]; exact H) | exact H
                                  have Ny119 := Aside0.mk hy119
                                  clear hy119
                                  by_cases c78 : y119.length < 5864062014805
                                  · rw [if_pos c78] at H
                                    have LMc78 := Aside0.mk c78
                                    clear c78
                                    obtain ⟨y122, hy122⟩ : ∃ y_ : List (S55), y_ = (y119 ++ [(⟨(decide (((rd_T50 l0 x16_1).f0) ≥ 19)), x117001_3, x117002_3, x117003_3⟩ : S55)]) := ⟨_, rfl⟩
                                    replace H : (if x5_1.length < 5864062014805 then (term_read.l0 k3 (x5_1 ++ [(⟨(decide (((rd_T50 l0 x16_1).f0) ≥ 19)), x117001_3, x117002_3, x117003_3⟩ : S55)]) y122 l0 (l0.length : Int) (wrap64 (x16_1 + 1))) else (none)) = some (r1, r2, r3, r4, r5, r6) := by first | (rw [hy122]; with_reducible exact H) | (have H2_ := (Option.bind_some _ _).symm.trans H; rw [hy122]; with_reducible exact H2_) | (have H2_ := (Option.bind_some _ _).symm.trans H; with_reducible exact H2_) | with_reducible exact H | (rw [hy122]; exact H) | exact H
                                    have Ny122 := Aside0.mk hy122
                                    clear hy122
                                    by_cases c79 : x5_1.length < 5864062014805
                                    · rw [if_pos c79] at H
                                      have LMc79 := Aside0.mk c79
                                      clear c79
                                      obtain ⟨y125, hy125⟩ : ∃ y_ : List (S55), y_ = (x5_1 ++ [(⟨(decide (((rd_T50 l0 x16_1).f0) ≥ 19)), x117001_3, x117002_3, x117003_3⟩ : S55)]) := ⟨_, rfl⟩
                                      replace H : (term_read.l0 k3 y125 y122 l0 (l0.length : Int) (wrap64 (x16_1 + 1))) = some (r1, r2, r3, r4, r5, r6) := by first | (rw [hy125]; with_reducible exact H) | (have H2_ := (Option.bind_some _ _).symm.trans H; rw [hy125]; with_reducible exact H2_) | (have H2_ := (Option.bind_some _ _).symm.trans H; with_reducible exact H2_) | with_reducible exact H | (rw [hy125]; exact H) | exact H
                                      have Ny125 := Aside0.mk hy125
                                      clear hy125
                                      have H' := Aside0.mk H
                                      clear H
                                      try go_wp2
                                      have n0_ := Aside0.mk (Kd.R_drew HO_5.out)
                                      have n1_ := Aside0.mk (Kd.R_drew HO_6.out)
                                      have n2_ := Aside0.mk (blk_drew BK105.out)
                                      have n3_ := Aside0.mk (blk_drew BK108.out)
                                      have n4_ := Aside0.mk (blk_drew BK116.out)
                                      have n5_ := Aside0.mk (below_drew1 HB.out)
                                      clear HO_5
                                      clear HO_6
                                      clear BK105
                                      clear BK108
                                      clear BK116
                                      clear HB
                                      have HO_5 := n0_
                                      have HO_6 := n1_
                                      have BK105 := n2_
                                      have BK108 := n3_
                                      have BK116 := n4_
                                      have HB := n5_
                                      clear n0_ n1_ n2_ n3_ n4_ n5_
                                      have q81 : ((ji75) : Int) ≤ ((x6_1.length : Int) : Int) := of_decide_eq_true (by first | (with_reducible assumption) | assumption)
                                      obtain ⟨i081, hi081, _, hsz81, _⟩ := info_parts info55
                                      have hcut81 := cut_to (P := Try.prog) 53 55 .i64 Try.underlying53 hi081 Ao23 x6_1.length co23 (ji75) (of_decide_eq_true (by first | (with_reducible assumption) | assumption)) q81 (Kd.R_reads' HO_6.out).2.1
                                      have hr81 := Kd.R_take (m := ((ji75) : Int).toNat) HO_6.out (by omega)
                                      have hy81 : y119.length = ((ji75) : Int).toNat := (by rw [Ny119.out, List.length_take]; omega)
                                      rw [← Ny119.out] at hr81
                                      rw [← hy81] at hr81 hcut81
                                      clear hy81 hi081 hsz81 HO_6
                                      have HO121 := Aside0.mk hr81
                                      clear hr81
                                      replace q81 := eq_true q81
                                      refine start_ (n := 10) (S := fun w' => w'.cell? ⟨gb116, 0, none⟩ = some (.bool (decide (((rd_T50 l0 x16_1).f0) ≥ 19))) ∧ w'.cell? ⟨gb116, 1, none⟩ = some (.bool x117001_3) ∧ w'.cell? ⟨gb116, 2, none⟩ = some (.int .i64 x117002_3) ∧ w'.cell? ⟨gb116, 3, none⟩ = some (.int .i64 x117003_3)) (ds := []) #[false, false, false, false, false, false, false, false, false, false] (by kernel_rfl) rfl rfl ⟨(blk_cell BK116.out 0).trans rfl, (blk_cell BK116.out 1).trans rfl, (blk_cell BK116.out 2).trans rfl, (blk_cell BK116.out 3).trans rfl⟩ (fun hHeld => ?_); refine with_tabW term_read.tab20 term_read.bits20 (fun HT_ HW_ => ?_)
                                      generalize wr.drew = w80 at HO_5 HO_6 BK105 BK108 BK116 HB HO121 hHeld ⊢
                                      refine pure_ (i := 0) (N := some 79) (v := ?_) (a' := ?_) #[true, false, false, false, false, false, false, false, false, false] rfl rfl (any_of HT_.out (by kernel_rfl)) (fun _ _ _ h => h) (Or.inl ⟨by rfl, ?_⟩) ?_ ?_
                                      rotate_left
                                      · intro w'
                                        go_simp
                                        with_reducible rfl
                                      rotate_left
                                      · simp only [Act.put, List.setIfInBounds_toArray, List.set_cons_zero, List.set_cons_succ, i64_w, i32_w]
                                        rfl
                                      refine pure_ (i := 1) (N := some 80) (v := ?_) (a' := ?_) #[true, true, false, false, false, false, false, false, false, false] rfl rfl (any_of HT_.out (by kernel_rfl)) (fun _ _ _ h => h) (Or.inl ⟨by rfl, ?_⟩) ?_ ?_
                                      rotate_left
                                      · intro w'
                                        go_simp
                                        with_reducible rfl
                                      rotate_left
                                      · simp only [Act.put, List.setIfInBounds_toArray, List.set_cons_zero, List.set_cons_succ, i64_w, i32_w]
                                        rfl
                                      refine pure_ (i := 2) (N := some 81) (v := ?_) (a' := ?_) #[true, true, true, false, false, false, false, false, false, false] rfl rfl (any_of HT_.out (by kernel_rfl)) (fun _ _ _ h => h) (Or.inl ⟨by rfl, ?_⟩) ?_ ?_
                                      rotate_left
                                      · intro w'
                                        go_simp
                                        with_reducible rfl
                                      rotate_left
                                      · simp only [Act.put, List.setIfInBounds_toArray, List.set_cons_zero, List.set_cons_succ, i64_w, i32_w]
                                        rfl
                                      refine pure_ (i := 3) (N := some 82) (v := ?_) (a' := ?_) #[true, true, true, true, false, false, false, false, false, false] rfl rfl (any_of HT_.out (by kernel_rfl)) (fun _ _ _ h => h) (Or.inl ⟨by rfl, ?_⟩) ?_ ?_
                                      rotate_left
                                      · intro w'
                                        go_simp
                                        with_reducible rfl
                                      rotate_left
                                      · simp only [Act.put, List.setIfInBounds_toArray, List.set_cons_zero, List.set_cons_succ, i64_w, i32_w]
                                        rfl
                                      refine pure_ (i := 4) (N := some 83) (v := ?_) (a' := ?_) #[true, true, true, true, true, false, false, false, false, false] rfl rfl (any_of HT_.out (by kernel_rfl)) (fun _ _ _ h => h) (Or.inl ⟨by rfl, ?_⟩) ?_ ?_
                                      rotate_left
                                      · intro w'
                                        go_simp
                                        with_reducible rfl
                                      rotate_left
                                      · simp only [Act.put, List.setIfInBounds_toArray, List.set_cons_zero, List.set_cons_succ, i64_w, i32_w]
                                        rfl
                                      refine pure_ (i := 5) (N := some 84) (v := ?_) (a' := ?_) #[true, true, true, true, true, true, false, false, false, false] rfl rfl (any_of HT_.out (by kernel_rfl)) (fun _ _ _ h => h) (Or.inl ⟨by rfl, ?_⟩) ?_ ?_
                                      rotate_left
                                      · intro w'
                                        go_simp
                                        with_reducible rfl
                                      rotate_left
                                      · simp only [Act.put, List.setIfInBounds_toArray, List.set_cons_zero, List.set_cons_succ, i64_w, i32_w]
                                        rfl
                                      refine take_ (i := 6) (N := some 85) (v := ?_) (a' := ?_) #[true, true, true, true, true, true, true, false, false, false] rfl rfl (take_ofW HT_.out HW_.out (by kernel_rfl)) (fun _ _ _ h => h) (Or.inl ⟨by rfl, ?_⟩) hHeld ?_ ?_
                                      rotate_left
                                      · rintro w' ⟨s0, s1, s2, s3⟩
                                        go_simp
                                        with_reducible rfl
                                      rotate_left
                                      · simp only [Act.put, List.setIfInBounds_toArray, List.set_cons_zero, List.set_cons_succ, i64_w, i32_w]
                                        rfl
                                      refine one_ (i := 7) (N := some 86) #[true, true, true, true, true, true, true, true, false, false] rfl rfl (one_of HT_.out (by kernel_rfl)) (by decide) (fun K hK => ?_)
                                      refine value_ (w1 := ?_) (v := ?_) (by rfl) rfl ?_ ?_
                                      rotate_left 2
                                      · go_simp
                                        constructor
                                        · rfl
                                        · rfl
                                      refine hK.out _ _ ⟨(blk_cell (blk_alloc BK116.out _) 0).trans rfl, (blk_cell (blk_alloc BK116.out _) 1).trans rfl, (blk_cell (blk_alloc BK116.out _) 2).trans rfl, (blk_cell (blk_alloc BK116.out _) 3).trans rfl⟩ (fun hHeld => ?_)
                                      clear hK K
                                      refine norm_ (a' := ?_) ?_ ?_
                                      rotate_left
                                      · show Act.put _ (some 86) _ = _
                                        simp only [Act.put, List.setIfInBounds_toArray, List.set_cons_zero, List.set_cons_succ, i64_w, i32_w]
                                        rfl
                                      refine one_ (i := 8) (N := some 87) #[true, true, true, true, true, true, true, true, true, false] rfl rfl (one_of HT_.out (by kernel_rfl)) (by decide) (fun K hK => ?_)
                                      refine Kd.R_append_step k55 (w0 := w) w.heap.size (by rfl) (.tmp 84) (.tmp 86) 53 55 (.agg #[(.bool false), (.bool false), (.int .i64 0), (.int .i64 0)]) 24 rfl Try.underlying53 info55 rfl (by decide) (by omega) (.slice Ao23 y119.length co23) y119 (⟨(decide (((rd_T50 l0 x16_1).f0) ≥ 19)), x117001_3, x117002_3, x117003_3⟩ : S55) [.bool (decide (((rd_T50 l0 x16_1).f0) ≥ 19)), .bool x117001_3, .int .i64 x117002_3, .int .i64 x117003_3] (fun k_ => some k_ ≠ (u5 : Value).ownBlock ∧ k_ ≠ gb105 ∧ k_ ≠ gb116) (fun _ => False) rfl rfl ?aP (fun _ hk => hk.elim) ?aF ?aO ?aB ?aS ?aL ?_
                                      (case aP => exact k55_mkM _ _ _ (⟨(decide (((rd_T50 l0 x16_1).f0) ≥ 19)), x117001_3, x117002_3, x117003_3⟩ : S55))
                                      (case aB => exact (by repeat (first | (with_reducible first | exact HB.out | apply below_alloc | apply pw_below_drewN | apply below_drew1 | refine below_set ?_ GE105.out | refine below_set ?_ GE108.out | refine below_set ?_ GE116.out) | exact HB.out)))
                                      (case aF => exact (fun k_ hk => ⟨Kd.fresh' (Kd.R_lt (by (with_reducible repeat (first | apply Kd.R_alloc | apply Kd.R_drewN | apply Kd.R_drew)); exact HO_5.out)) k_ hk, Kd.freshB (g := gb105) (o := .cells #[.bool x106000_1, .bool x106001_1, .int .i64 x106002_1, .int .i64 x106003_1] 55 (0, 0)) (by (with_reducible repeat (first | refine blk_drewN ?_ _ | refine blk_drew ?_ | refine blk_alloc ?_ _)); exact BK105.out) k_ hk, Kd.freshB (g := gb116) (o := .cells #[.bool (decide (((rd_T50 l0 x16_1).f0) ≥ 19)), .bool x117001_3, .int .i64 x117002_3, .int .i64 x117003_3] 55 (0, 0)) (by (with_reducible repeat (first | refine blk_drewN ?_ _ | refine blk_drew ?_ | refine blk_alloc ?_ _)); exact BK116.out) k_ hk⟩))
                                      (case aO => exact (by (with_reducible repeat (first | apply Kd.R_alloc | apply Kd.R_drewN | apply Kd.R_drew)); exact HO121.out))
                                      (case aS => exact (below_size (by repeat (first | (with_reducible first | exact HB.out | apply below_alloc | apply pw_below_drewN | apply below_drew1 | refine below_set ?_ GE105.out | refine below_set ?_ GE108.out | refine below_set ?_ GE116.out) | exact HB.out))))
                                      (case aL => have := LMc78.out; omega)
                                      intro v123 w82 ho hb hg hat
                                      rw [← Ny122.out] at ho
                                      have n0_ := Aside0.mk (Kd.R_after (ok := (fun k_ => k_ ≠ gb105 ∧ k_ ≠ gb116)) (by (with_reducible repeat (first | apply Kd.R_alloc | apply Kd.R_drewN | apply Kd.R_drew)); exact Kd.R_mono HO_5.out (fun _ hk => ⟨⟨hk.2.1, hk.2.2⟩, (show ∀ x y : Nat, (Value.slice Ao23 x co23).ownBlock = (Value.slice Ao23 y co23).ownBlock from fun x y => by cases Ao23 <;> rfl) y119.length x6_1.length ▸ hk.1⟩)) hg hat)
                                      have n1_ := Aside0.mk (blk_grown (g := gb105) (o := .cells #[.bool x106000_1, .bool x106001_1, .int .i64 x106002_1, .int .i64 x106003_1] 55 (0, 0)) (by (with_reducible repeat (first | refine blk_drewN ?_ _ | refine blk_drew ?_ | refine blk_alloc ?_ _)); exact BK105.out) hg (Kd.R_away HO121.out (fun _ hk => hk.2.1)))
                                      have n2_ := Aside0.mk (blk_grown (g := gb108) (o := .cells #[.int .u8 ((rd_T50 l0 x16_1).f0), .int .u8 ((rd_T50 l0 x16_1).f1)] 50 (0, 0)) (by (with_reducible repeat (first | refine blk_drewN ?_ _ | refine blk_drew ?_ | refine blk_alloc ?_ _)); exact BK108.out) hg (Kd.R_ne HO121.out BK108.out (by decide)))
                                      have n3_ := Aside0.mk (blk_grown (g := gb116) (o := .cells #[.bool (decide (((rd_T50 l0 x16_1).f0) ≥ 19)), .bool x117001_3, .int .i64 x117002_3, .int .i64 x117003_3] 55 (0, 0)) (by (with_reducible repeat (first | refine blk_drewN ?_ _ | refine blk_drew ?_ | refine blk_alloc ?_ _)); exact BK116.out) hg (Kd.R_away HO121.out (fun _ hk => hk.2.2)))
                                      have n4_ := Aside0.mk (hb)
                                      have n5_ := Aside0.mk (ho)
                                      clear HO_5
                                      clear BK105
                                      clear BK108
                                      clear BK116
                                      clear HB
                                      clear HO121
                                      have HO_5 := n0_
                                      have BK105 := n1_
                                      have BK108 := n2_
                                      have BK116 := n3_
                                      have HB := n4_
                                      have HO124 := n5_
                                      clear n0_ n1_ n2_ n3_ n4_ n5_
                                      clear ho hb hg hat
                                      refine hK.out _ _ ⟨(blk_cell BK116.out 0).trans rfl, (blk_cell BK116.out 1).trans rfl, (blk_cell BK116.out 2).trans rfl, (blk_cell BK116.out 3).trans rfl⟩ (fun hHeld => ?_)
                                      clear hK K
                                      refine norm_ (a' := ?_) ?_ ?_
                                      rotate_left
                                      · show Act.put _ (some 87) _ = _
                                        simp only [Act.put, List.setIfInBounds_toArray, List.set_cons_zero, List.set_cons_succ, i64_w, i32_w]
                                        rfl
                                      refine pure_ (i := 9) (N := some 6) (v := ?_) (a' := ?_) #[true, true, true, true, true, true, true, true, true, true] rfl rfl (any_of HT_.out (by kernel_rfl)) (fun _ _ _ h => h) (Or.inl ⟨by rfl, ?_⟩) ?_ ?_
                                      rotate_left
                                      · intro w'
                                        go_simp
                                        with_reducible rfl
                                      rotate_left
                                      · simp only [Act.put, List.setIfInBounds_toArray, List.set_cons_zero, List.set_cons_succ, i64_w, i32_w]
                                        rfl
                                      refine done_ (done_of HT_.out (by kernel_rfl)) ?_
                                      have hnb83 := NB116_105.out
                                      have hnc83 := NB105_116.out
                                      have hnb84 := NB116_108.out
                                      have hnc84 := NB108_116.out
                                      have hcz85_0 : w82.cell? ⟨gb116, 0, none⟩ = some (.bool (decide (((rd_T50 l0 x16_1).f0) ≥ 19))) := (blk_cell BK116.out 0).trans rfl
                                      have hcz85_1 : w82.cell? ⟨gb116, 1, none⟩ = some (.bool x117001_3) := (blk_cell BK116.out 1).trans rfl
                                      have hcz85_2 : w82.cell? ⟨gb116, 2, none⟩ = some (.int .i64 x117002_3) := (blk_cell BK116.out 2).trans rfl
                                      have hcz85_3 : w82.cell? ⟨gb116, 3, none⟩ = some (.int .i64 x117003_3) := (blk_cell BK116.out 3).trans rfl
                                      have hfz85_0 := blk_frozen BK116.out 0
                                      have hfz85_1 := blk_frozen BK116.out 1
                                      have hfz85_2 := blk_frozen BK116.out 2
                                      have hfz85_3 := blk_frozen BK116.out 3
                                      try go_wp2_with (first | ((with_reducible refine gate_builtin (b := .append) (xs := #[.tmp 88, .tmp 90]) rfl ?_); (try (refine gate_guard (by rfl) ?_; dsimp only)); at_builtin; refine Kd.R_append k55 (w0 := w) w.heap.size rfl (.tmp 88) (.tmp 90) 53 55 (.agg #[(.bool false), (.bool false), (.int .i64 0), (.int .i64 0)]) 24 rfl Try.underlying53 info55 rfl (by decide) (by omega) u5 x5_1 (⟨(decide (((rd_T50 l0 x16_1).f0) ≥ 19)), x117001_3, x117002_3, x117003_3⟩ : S55) [.bool (decide (((rd_T50 l0 x16_1).f0) ≥ 19)), .bool x117001_3, .int .i64 x117002_3, .int .i64 x117003_3] (fun k_ => some k_ ≠ (v123 : Value).ownBlock ∧ k_ ≠ gb105 ∧ k_ ≠ gb116) (fun _ => False) rfl rfl ?aP (fun _ hk => hk.elim) ?aF ?aO ?aB ?aS ?aL ?_; (case aP => exact k55_mkM _ _ _ (⟨(decide (((rd_T50 l0 x16_1).f0) ≥ 19)), x117001_3, x117002_3, x117003_3⟩ : S55)); (case aB => exact (by repeat (first | (with_reducible first | exact HB.out | apply below_alloc | apply pw_below_drewN | apply below_drew1 | refine below_set ?_ GE105.out | refine below_set ?_ GE108.out | refine below_set ?_ GE116.out) | exact HB.out))); (case aF => exact (fun k_ hk => ⟨Kd.fresh' (Kd.R_lt (by (with_reducible repeat (first | apply Kd.R_alloc | apply Kd.R_drewN | apply Kd.R_drew)); exact HO124.out)) k_ hk, Kd.freshB (g := gb105) (o := .cells #[.bool x106000_1, .bool x106001_1, .int .i64 x106002_1, .int .i64 x106003_1] 55 (0, 0)) (by (with_reducible repeat (first | refine blk_drewN ?_ _ | refine blk_drew ?_ | refine blk_alloc ?_ _)); exact BK105.out) k_ hk, Kd.freshB (g := gb116) (o := .cells #[.bool (decide (((rd_T50 l0 x16_1).f0) ≥ 19)), .bool x117001_3, .int .i64 x117002_3, .int .i64 x117003_3] 55 (0, 0)) (by (with_reducible repeat (first | refine blk_drewN ?_ _ | refine blk_drew ?_ | refine blk_alloc ?_ _)); exact BK116.out) k_ hk⟩)); (case aO => exact (by (with_reducible repeat (first | apply Kd.R_alloc | apply Kd.R_drewN | apply Kd.R_drew)); exact Kd.R_mono HO_5.out (fun _ hk => ⟨hk.2, ⟨hk.1.1, hk.1.2⟩⟩))); (case aS => exact (below_size (by repeat (first | (with_reducible first | exact HB.out | apply below_alloc | apply pw_below_drewN | apply below_drew1 | refine below_set ?_ GE105.out | refine below_set ?_ GE108.out | refine below_set ?_ GE116.out) | exact HB.out)))); (case aL => have := LMc79.out; omega); intro v126 w86 ho hb hg hat; rw [← Ny125.out] at ho; have n0_ := Aside0.mk (blk_grown (g := gb105) (o := .cells #[.bool x106000_1, .bool x106001_1, .int .i64 x106002_1, .int .i64 x106003_1] 55 (0, 0)) (by (with_reducible repeat (first | refine blk_drewN ?_ _ | refine blk_drew ?_ | refine blk_alloc ?_ _)); exact BK105.out) hg (Kd.R_away HO_5.out (fun _ hk => hk.1.1))); have n1_ := Aside0.mk (blk_grown (g := gb108) (o := .cells #[.int .u8 ((rd_T50 l0 x16_1).f0), .int .u8 ((rd_T50 l0 x16_1).f1)] 50 (0, 0)) (by (with_reducible repeat (first | refine blk_drewN ?_ _ | refine blk_drew ?_ | refine blk_alloc ?_ _)); exact BK108.out) hg (Kd.R_ne HO_5.out BK108.out (by decide))); have n2_ := Aside0.mk (blk_grown (g := gb116) (o := .cells #[.bool (decide (((rd_T50 l0 x16_1).f0) ≥ 19)), .bool x117001_3, .int .i64 x117002_3, .int .i64 x117003_3] 55 (0, 0)) (by (with_reducible repeat (first | refine blk_drewN ?_ _ | refine blk_drew ?_ | refine blk_alloc ?_ _)); exact BK116.out) hg (Kd.R_away HO_5.out (fun _ hk => hk.1.2))); have n3_ := Aside0.mk (Kd.R_after (ok := (fun k_ => k_ ≠ gb105 ∧ k_ ≠ gb116)) (by (with_reducible repeat (first | apply Kd.R_alloc | apply Kd.R_drewN | apply Kd.R_drew)); exact Kd.R_mono HO124.out (fun _ hk => ⟨⟨hk.2.1, hk.2.2⟩, hk.1⟩)) hg hat); have n4_ := Aside0.mk (hb); have n5_ := Aside0.mk (ho); clear BK105; clear BK108; clear BK116; clear HO124; clear HB; clear HO_5; have BK105 := n0_; have BK108 := n1_; have BK116 := n2_; have HO124 := n3_; have HB := n4_; have HO127 := n5_; clear n0_ n1_ n2_ n3_ n4_ n5_; clear ho hb hg hat))
                                      go_roundg k3
                                      case measure => have := HK1.out; have := HJ6.out; have := HK3.out; omega
                                      case rel => exact ⟨(y125), (y122), (wrap64 (x16_1 + 1)), (x106000_1), (x106001_1), (x106002_1), (x106003_1), (by first | rfl | (simp; done) | (simp [*]; done)), H', ⟨by have := HK1.out; have := HJ6.out; have := HK3.out; omega⟩, ⟨by (with_reducible repeat (first | apply Kd.R_alloc | apply Kd.R_drewN | apply Kd.R_drew)); exact Kd.R_mono HO127.out (fun _ hk => ⟨hk.1, hk.2.1⟩)⟩, ⟨by (with_reducible repeat (first | apply Kd.R_alloc | apply Kd.R_drewN | apply Kd.R_drew)); exact Kd.R_mono HO124.out (fun _ hk => ⟨hk.2, hk.1.1⟩)⟩, ⟨by (with_reducible repeat (first | refine blk_drewN ?_ _ | refine blk_drew ?_ | refine blk_alloc ?_ _)); exact BK105.out⟩, ⟨by repeat (first | (with_reducible first | exact HB.out | apply below_alloc | apply pw_below_drewN | apply below_drew1 | refine below_set ?_ GE105.out | refine below_set ?_ GE108.out | refine below_set ?_ GE116.out) | exact HB.out)⟩⟩
                                    · rw [if_neg c79] at H
                                      exact absurd H (by simp)
                                  · rw [if_neg c78] at H
                                    exact absurd H (by simp)
                                · rw [if_neg c77] at H
                                  exact absurd H (by simp)
                              · rw [if_neg c76] at H
                                exact absurd H (by simp)
                            · rw [if_pos c35] at H
                              have c35b0 : decide (x54_3 < (y110.length : Int)) = true := decide_eq_true c35
                              clear c35
                              by_cases c36 : 0 ≤ x54_3
                              · rw [if_pos c36] at H
                                have c36b0 : decide (0 ≤ x54_3) = true := decide_eq_true c36
                                clear c36
                                by_cases c37 : x54_3 < (y110.length : Int)
                                · rw [if_pos c37] at H
                                  have c37b0 : decide (x54_3 < (y110.length : Int)) = true := decide_eq_true c37
                                  clear c37
                                  by_cases c38 : x117001_3 = true
                                  · subst c38
                                    have H1 : (if x54_3 = 0 then (term_read.l1 k3 x5_1 x6_1 t109 l0 (l0.length : Int) x16_1 y110 (y110.length : Int) (wrap64 (x54_3 + 1)) (decide (((rd_T50 l0 x16_1).f0) ≥ 19)) ((rd_T55 y110 x54_3).f1) (mx x117002_3 (wrap64 (((rd_T55 y110 x54_3).f2) + 1))) ((rd_T55 y110 x54_3).f3)) else (term_read.l1 k3 x5_1 x6_1 t109 l0 (l0.length : Int) x16_1 y110 (y110.length : Int) (wrap64 (x54_3 + 1)) (decide (((rd_T50 l0 x16_1).f0) ≥ 19)) ((rd_T55 y110 x54_3).f1) (mx x117002_3 (wrap64 (((rd_T55 y110 x54_3).f2) + 1))) x117003_3)) = some (r1, r2, r3, r4, r5, r6) := by rw [if_pos rfl] at H; exact H
                                    clear H
                                    have H := H1
                                    clear H1
                                    obtain ⟨ji39, hji39⟩ : ∃ j_ : Int, (mx x117002_3 (wrap64 (((rd_T55 y110 x54_3).f2) + 1))) = j_ := ⟨_, rfl⟩
                                    replace H : (if x54_3 = 0 then (term_read.l1 k3 x5_1 x6_1 t109 l0 (l0.length : Int) x16_1 y110 (y110.length : Int) (wrap64 (x54_3 + 1)) (decide (((rd_T50 l0 x16_1).f0) ≥ 19)) ((rd_T55 y110 x54_3).f1) ji39 ((rd_T55 y110 x54_3).f3)) else (term_read.l1 k3 x5_1 x6_1 t109 l0 (l0.length : Int) x16_1 y110 (y110.length : Int) (wrap64 (x54_3 + 1)) (decide (((rd_T50 l0 x16_1).f0) ≥ 19)) ((rd_T55 y110 x54_3).f1) ji39 x117003_3)) = some (r1, r2, r3, r4, r5, r6) := by first | (rw [hji39] at H; exact H) | (simp only [hji39] at H ⊢; exact H)
                                    have hji39_ : (if x117002_3 < (wrap64 (((rd_T55 y110 x54_3).f2) + 1)) then (wrap64 (((rd_T55 y110 x54_3).f2) + 1)) else x117002_3) = ji39 := hji39
                                    by_cases c40 : x54_3 = 0
                                    · rw [if_pos c40] at H
                                      have c40b0 : (x54_3 == 0) = true := beq_iff_eq.mpr c40
                                      have c40b1 : (x54_3 != 0) = false := bne_eq_false_iff_eq.mpr c40
                                      clear c40
                                      have H' := Aside0.mk H
                                      clear H
                                      have p117 : 0 ≤ (x54_3 : Int) := of_decide_eq_true (by first | (with_reducible assumption) | assumption)
                                      have q117 : x54_3 < (y110.length : Int) := of_decide_eq_true (by first | (with_reducible assumption) | assumption)
                                      have HR113 : Aside0 (Kd.C k55 wr A24 y110.length y110) := ⟨by have h_ := Kd.C_drop (m := ((ji17) : Int).toNat) (c := co23) (Kd.R_reads' HO_6.out).2.2 KL24.out (Kd.R_reads' HO_6.out).2.1; rw [show (x6_1).drop ((ji17) : Int).toNat = y110 from Ny110.out.symm] at h_; rw [KA24.out]; exact h_⟩
                                      obtain ⟨ad117, e117, hx117_0, hx117_1, hx117_2, hx117_3⟩ := at_T55 HR113.out x54_3 p117 q117
                                      cases e117
                                      replace p117 := eq_true p117
                                      replace q117 := eq_true q117
                                      go_wp2_with (first | ((with_reducible refine gate_dst (N := 13) rfl ?_); (try (refine gate_guard (by rfl) ?_; dsimp only)); refine box_event ?hg (N := 13) ?hd (cs := #[.bool false, .bool false, .int .i64 0, .int .i64 0]) (t := 55) ?hr ?_; (case hd => rfl); (case hg => rfl); (case hr => first | (go_simp; done) | (go_simp; rfl)); intro gb118 hg w41 hbox hb; have n0_ := Aside0.mk (Kd.R_below (Kd.R_elderB (by (with_reducible repeat (first | apply Kd.R_alloc | apply Kd.R_drewN | apply Kd.R_drew)); exact HO_5.out) gb118 (Nat.le_of_eq hg.symm)) hb); have n1_ := Aside0.mk (Kd.R_below (Kd.R_elderB (by (with_reducible repeat (first | apply Kd.R_alloc | apply Kd.R_drewN | apply Kd.R_drew)); exact HO_6.out) gb118 (Nat.le_of_eq hg.symm)) hb); have n2_ := Aside0.mk (blk_below (g := gb105) (o := .cells #[.bool x106000_1, .bool x106001_1, .int .i64 x106002_1, .int .i64 x106003_1] 55 (0, 0)) (by (with_reducible repeat (first | refine blk_drewN ?_ _ | refine blk_drew ?_ | refine blk_alloc ?_ _)); exact BK105.out) hb); have n3_ := Aside0.mk (blk_below (g := gb108) (o := .cells #[.int .u8 ((rd_T50 l0 x16_1).f0), .int .u8 ((rd_T50 l0 x16_1).f1)] 50 (0, 0)) (by (with_reducible repeat (first | refine blk_drewN ?_ _ | refine blk_drew ?_ | refine blk_alloc ?_ _)); exact BK108.out) hb); have n4_ := Aside0.mk (blk_below (g := gb116) (o := .cells #[.bool (decide (((rd_T50 l0 x16_1).f0) ≥ 19)), .bool true, .int .i64 x117002_3, .int .i64 x117003_3] 55 (0, 0)) (by (with_reducible repeat (first | refine blk_drewN ?_ _ | refine blk_drew ?_ | refine blk_alloc ?_ _)); exact BK116.out) hb); have n5_ := Aside0.mk (below_step (by repeat (first | (with_reducible first | exact HB.out | apply below_alloc | apply pw_below_drewN | apply below_drew1 | refine below_set ?_ GE105.out | refine below_set ?_ GE108.out | refine below_set ?_ GE116.out) | exact HB.out)) hb); have n6_ := Aside0.mk (hbox); have n7_ := Aside0.mk ((by rw [hg]; exact (below_size (by repeat (first | (with_reducible first | exact HB.out | apply below_alloc | apply pw_below_drewN | apply below_drew1 | refine below_set ?_ GE105.out | refine below_set ?_ GE108.out | refine below_set ?_ GE116.out) | exact HB.out))) : w.heap.size ≤ gb118)); have n8_ := Aside0.mk ((by rw [hg]; exact (below_size (by repeat (first | (with_reducible first | exact HB.out | apply below_alloc | apply pw_below_drewN | apply below_drew1 | refine below_set ?_ GE105.out | refine below_set ?_ GE108.out | refine below_set ?_ GE116.out) | exact HB.out))) : w.heap.size ≤ gb118)); have n9_ := Aside0.mk ((by rw [hg]; exact Nat.ne_of_lt (blk_lt (g := gb105) (o := .cells #[.bool x106000_1, .bool x106001_1, .int .i64 x106002_1, .int .i64 x106003_1] 55 (0, 0)) (by (with_reducible repeat (first | refine blk_drewN ?_ _ | refine blk_drew ?_ | refine blk_alloc ?_ _)); exact BK105.out)) : gb105 ≠ gb118)); have n10_ := Aside0.mk ((by rw [hg]; exact Nat.ne_of_gt (blk_lt (g := gb105) (o := .cells #[.bool x106000_1, .bool x106001_1, .int .i64 x106002_1, .int .i64 x106003_1] 55 (0, 0)) (by (with_reducible repeat (first | refine blk_drewN ?_ _ | refine blk_drew ?_ | refine blk_alloc ?_ _)); exact BK105.out)) : gb118 ≠ gb105)); have n11_ := Aside0.mk ((by rw [hg]; exact Nat.ne_of_lt (blk_lt (g := gb108) (o := .cells #[.int .u8 ((rd_T50 l0 x16_1).f0), .int .u8 ((rd_T50 l0 x16_1).f1)] 50 (0, 0)) (by (with_reducible repeat (first | refine blk_drewN ?_ _ | refine blk_drew ?_ | refine blk_alloc ?_ _)); exact BK108.out)) : gb108 ≠ gb118)); have n12_ := Aside0.mk ((by rw [hg]; exact Nat.ne_of_gt (blk_lt (g := gb108) (o := .cells #[.int .u8 ((rd_T50 l0 x16_1).f0), .int .u8 ((rd_T50 l0 x16_1).f1)] 50 (0, 0)) (by (with_reducible repeat (first | refine blk_drewN ?_ _ | refine blk_drew ?_ | refine blk_alloc ?_ _)); exact BK108.out)) : gb118 ≠ gb108)); have n13_ := Aside0.mk ((by rw [hg]; exact Nat.ne_of_lt (blk_lt (g := gb116) (o := .cells #[.bool (decide (((rd_T50 l0 x16_1).f0) ≥ 19)), .bool true, .int .i64 x117002_3, .int .i64 x117003_3] 55 (0, 0)) (by (with_reducible repeat (first | refine blk_drewN ?_ _ | refine blk_drew ?_ | refine blk_alloc ?_ _)); exact BK116.out)) : gb116 ≠ gb118)); have n14_ := Aside0.mk ((by rw [hg]; exact Nat.ne_of_gt (blk_lt (g := gb116) (o := .cells #[.bool (decide (((rd_T50 l0 x16_1).f0) ≥ 19)), .bool true, .int .i64 x117002_3, .int .i64 x117003_3] 55 (0, 0)) (by (with_reducible repeat (first | refine blk_drewN ?_ _ | refine blk_drew ?_ | refine blk_alloc ?_ _)); exact BK116.out)) : gb118 ≠ gb116)); clear HO_5; clear HO_6; clear BK105; clear BK108; clear BK116; clear HB; have HO_5 := n0_; have HO_6 := n1_; have BK105 := n2_; have BK108 := n3_; have BK116 := n4_; have HB := n5_; have BK118 := n6_; have GW118 := n7_; have GE118 := n8_; have NB105_118 := n9_; have NB118_105 := n10_; have NB108_118 := n11_; have NB118_108 := n12_; have NB116_118 := n13_; have NB118_116 := n14_; clear n0_ n1_ n2_ n3_ n4_ n5_ n6_ n7_ n8_ n9_ n10_ n11_ n12_ n13_ n14_; clear hb hbox hg; have hnb42 := NB118_105.out; have hnc42 := NB105_118.out; have hnb43 := NB118_108.out; have hnc43 := NB108_118.out; have hnb44 := NB118_116.out; have hnc44 := NB116_118.out; have hcz45_0 : w41.cell? ⟨gb118, 0, none⟩ = some (.bool false) := (blk_cell BK118.out 0).trans rfl; have hcz45_1 : w41.cell? ⟨gb118, 1, none⟩ = some (.bool false) := (blk_cell BK118.out 1).trans rfl; have hcz45_2 : w41.cell? ⟨gb118, 2, none⟩ = some (.int .i64 0) := (blk_cell BK118.out 2).trans rfl; have hcz45_3 : w41.cell? ⟨gb118, 3, none⟩ = some (.int .i64 0) := (blk_cell BK118.out 3).trans rfl; have hfz45_0 := blk_frozen BK118.out 0; have hfz45_1 := blk_frozen BK118.out 1; have hfz45_2 := blk_frozen BK118.out 2; have hfz45_3 := blk_frozen BK118.out 3; have hnb46 := NB116_105.out; have hnc46 := NB105_116.out; have hnb47 := NB116_108.out; have hnc47 := NB108_116.out; have hcz48_0 : w41.cell? ⟨gb116, 0, none⟩ = some (.bool (decide (((rd_T50 l0 x16_1).f0) ≥ 19))) := (blk_cell BK116.out 0).trans rfl; have hcz48_1 : w41.cell? ⟨gb116, 1, none⟩ = some (.bool true) := (blk_cell BK116.out 1).trans rfl; have hcz48_2 : w41.cell? ⟨gb116, 2, none⟩ = some (.int .i64 x117002_3) := (blk_cell BK116.out 2).trans rfl; have hcz48_3 : w41.cell? ⟨gb116, 3, none⟩ = some (.int .i64 x117003_3) := (blk_cell BK116.out 3).trans rfl; have hfz48_0 := blk_frozen BK116.out 0; have hfz48_1 := blk_frozen BK116.out 1; have hfz48_2 := blk_frozen BK116.out 2; have hfz48_3 := blk_frozen BK116.out 3))
                                      go_roundg k3
                                      case measure => have := HK1.out; have := HJ6.out; have := HK3.out; omega
                                      case rel => exact ⟨(wrap64 (x54_3 + 1)), ((rd_T55 y110 x54_3).f1), (ji39), ((rd_T55 y110 x54_3).f3), (by first | rfl | (simp; done) | (simp [*]; done)), H', ⟨by have := HK1.out; have := HJ6.out; have := HK3.out; omega⟩, ⟨by (with_reducible repeat (first | apply Kd.R_alloc | apply Kd.R_drewN | apply Kd.R_drew)); exact Kd.R_mono (Kd.R_far (p := ⟨gb116, 3, none⟩) (Kd.R_far (p := ⟨gb116, 2, none⟩) (Kd.R_far (p := ⟨gb116, 1, none⟩) (Kd.R_far (p := ⟨gb118, 3, none⟩) (Kd.R_far (p := ⟨gb118, 2, none⟩) (Kd.R_far (p := ⟨gb118, 1, none⟩) (Kd.R_far (p := ⟨gb118, 0, none⟩) (Kd.R_mono (Kd.R_mono HO_5.out (fun k_ hk => (⟨hk, hk.2⟩ : _ ∧ k_ ≠ gb118))) (fun k_ hk => (⟨hk, hk.1.1.2.2⟩ : _ ∧ k_ ≠ gb116))) (fun _ hk => hk.1.2) (.bool ((rd_T55 y110 x54_3).f0))) (fun _ hk => hk.1.2) (.bool ((rd_T55 y110 x54_3).f1))) (fun _ hk => hk.1.2) (.int .i64 ((rd_T55 y110 x54_3).f2))) (fun _ hk => hk.1.2) (.int .i64 ((rd_T55 y110 x54_3).f3))) (fun _ hk => hk.2) (.bool ((rd_T55 y110 x54_3).f1))) (fun _ hk => hk.2) (.int .i64 ji39)) (fun _ hk => hk.2) (.int .i64 ((rd_T55 y110 x54_3).f3))) (fun _ hk => ⟨hk.1.1.1.1, ⟨hk.1.1.1.2.1, hk.1.1.1.2.2⟩⟩)⟩, ⟨by (with_reducible repeat (first | apply Kd.R_alloc | apply Kd.R_drewN | apply Kd.R_drew)); exact Kd.R_mono (Kd.R_far (p := ⟨gb116, 3, none⟩) (Kd.R_far (p := ⟨gb116, 2, none⟩) (Kd.R_far (p := ⟨gb116, 1, none⟩) (Kd.R_far (p := ⟨gb118, 3, none⟩) (Kd.R_far (p := ⟨gb118, 2, none⟩) (Kd.R_far (p := ⟨gb118, 1, none⟩) (Kd.R_far (p := ⟨gb118, 0, none⟩) (Kd.R_mono (Kd.R_mono HO_6.out (fun k_ hk => (⟨hk, hk.2⟩ : _ ∧ k_ ≠ gb118))) (fun k_ hk => (⟨hk, hk.1.1.2.2⟩ : _ ∧ k_ ≠ gb116))) (fun _ hk => hk.1.2) (.bool ((rd_T55 y110 x54_3).f0))) (fun _ hk => hk.1.2) (.bool ((rd_T55 y110 x54_3).f1))) (fun _ hk => hk.1.2) (.int .i64 ((rd_T55 y110 x54_3).f2))) (fun _ hk => hk.1.2) (.int .i64 ((rd_T55 y110 x54_3).f3))) (fun _ hk => hk.2) (.bool ((rd_T55 y110 x54_3).f1))) (fun _ hk => hk.2) (.int .i64 ji39)) (fun _ hk => hk.2) (.int .i64 ((rd_T55 y110 x54_3).f3))) (fun _ hk => ⟨hk.1.1.1.1, ⟨hk.1.1.1.2.1, hk.1.1.1.2.2⟩⟩)⟩, ⟨by (with_reducible repeat (first | refine blk_drewN ?_ _ | refine blk_drew ?_ | refine blk_alloc ?_ _)); refine blk_far ?_ NB105_116.out _; (with_reducible repeat (first | refine blk_drewN ?_ _ | refine blk_drew ?_ | refine blk_alloc ?_ _)); refine blk_far ?_ NB105_116.out _; (with_reducible repeat (first | refine blk_drewN ?_ _ | refine blk_drew ?_ | refine blk_alloc ?_ _)); refine blk_far ?_ NB105_116.out _; (with_reducible repeat (first | refine blk_drewN ?_ _ | refine blk_drew ?_ | refine blk_alloc ?_ _)); refine blk_far ?_ NB105_118.out _; (with_reducible repeat (first | refine blk_drewN ?_ _ | refine blk_drew ?_ | refine blk_alloc ?_ _)); refine blk_far ?_ NB105_118.out _; (with_reducible repeat (first | refine blk_drewN ?_ _ | refine blk_drew ?_ | refine blk_alloc ?_ _)); refine blk_far ?_ NB105_118.out _; (with_reducible repeat (first | refine blk_drewN ?_ _ | refine blk_drew ?_ | refine blk_alloc ?_ _)); refine blk_far ?_ NB105_118.out _; (with_reducible repeat (first | refine blk_drewN ?_ _ | refine blk_drew ?_ | refine blk_alloc ?_ _)); exact BK105.out⟩, ⟨by (with_reducible repeat (first | refine blk_drewN ?_ _ | refine blk_drew ?_ | refine blk_alloc ?_ _)); refine blk_far ?_ NB108_116.out _; (with_reducible repeat (first | refine blk_drewN ?_ _ | refine blk_drew ?_ | refine blk_alloc ?_ _)); refine blk_far ?_ NB108_116.out _; (with_reducible repeat (first | refine blk_drewN ?_ _ | refine blk_drew ?_ | refine blk_alloc ?_ _)); refine blk_far ?_ NB108_116.out _; (with_reducible repeat (first | refine blk_drewN ?_ _ | refine blk_drew ?_ | refine blk_alloc ?_ _)); refine blk_far ?_ NB108_118.out _; (with_reducible repeat (first | refine blk_drewN ?_ _ | refine blk_drew ?_ | refine blk_alloc ?_ _)); refine blk_far ?_ NB108_118.out _; (with_reducible repeat (first | refine blk_drewN ?_ _ | refine blk_drew ?_ | refine blk_alloc ?_ _)); refine blk_far ?_ NB108_118.out _; (with_reducible repeat (first | refine blk_drewN ?_ _ | refine blk_drew ?_ | refine blk_alloc ?_ _)); refine blk_far ?_ NB108_118.out _; (with_reducible repeat (first | refine blk_drewN ?_ _ | refine blk_drew ?_ | refine blk_alloc ?_ _)); exact BK108.out⟩, ⟨by (with_reducible repeat (first | refine blk_drewN ?_ _ | refine blk_drew ?_ | refine blk_alloc ?_ _)); refine blk_put (cs := #[.bool (decide (((rd_T50 l0 x16_1).f0) ≥ 19)), .bool ((rd_T55 y110 x54_3).f1), .int .i64 ji39, .int .i64 x117003_3]) ?_ 3 _ rfl; (with_reducible repeat (first | refine blk_drewN ?_ _ | refine blk_drew ?_ | refine blk_alloc ?_ _)); refine blk_put (cs := #[.bool (decide (((rd_T50 l0 x16_1).f0) ≥ 19)), .bool ((rd_T55 y110 x54_3).f1), .int .i64 x117002_3, .int .i64 x117003_3]) ?_ 2 _ rfl; (with_reducible repeat (first | refine blk_drewN ?_ _ | refine blk_drew ?_ | refine blk_alloc ?_ _)); refine blk_put (cs := #[.bool (decide (((rd_T50 l0 x16_1).f0) ≥ 19)), .bool true, .int .i64 x117002_3, .int .i64 x117003_3]) ?_ 1 _ rfl; (with_reducible repeat (first | refine blk_drewN ?_ _ | refine blk_drew ?_ | refine blk_alloc ?_ _)); refine blk_far ?_ NB116_118.out _; (with_reducible repeat (first | refine blk_drewN ?_ _ | refine blk_drew ?_ | refine blk_alloc ?_ _)); refine blk_far ?_ NB116_118.out _; (with_reducible repeat (first | refine blk_drewN ?_ _ | refine blk_drew ?_ | refine blk_alloc ?_ _)); refine blk_far ?_ NB116_118.out _; (with_reducible repeat (first | refine blk_drewN ?_ _ | refine blk_drew ?_ | refine blk_alloc ?_ _)); refine blk_far ?_ NB116_118.out _; (with_reducible repeat (first | refine blk_drewN ?_ _ | refine blk_drew ?_ | refine blk_alloc ?_ _)); exact BK116.out⟩, ⟨by repeat (first | (with_reducible first | exact HB.out | apply below_alloc | apply pw_below_drewN | apply below_drew1 | refine below_set ?_ GE105.out | refine below_set ?_ GE108.out | refine below_set ?_ GE116.out | refine below_set ?_ GE118.out) | exact HB.out)⟩⟩
                                    · rw [if_neg c40] at H
                                      have c40b0 : (x54_3 == 0) = false := beq_eq_false_iff_ne.mpr c40
                                      have c40b1 : (x54_3 != 0) = true := bne_iff_ne.mpr c40
                                      have H' := Aside0.mk H
                                      clear H
                                      have p117 : 0 ≤ (x54_3 : Int) := of_decide_eq_true (by first | (with_reducible assumption) | assumption)
                                      have q117 : x54_3 < (y110.length : Int) := of_decide_eq_true (by first | (with_reducible assumption) | assumption)
                                      have HR113 : Aside0 (Kd.C k55 wr A24 y110.length y110) := ⟨by have h_ := Kd.C_drop (m := ((ji17) : Int).toNat) (c := co23) (Kd.R_reads' HO_6.out).2.2 KL24.out (Kd.R_reads' HO_6.out).2.1; rw [show (x6_1).drop ((ji17) : Int).toNat = y110 from Ny110.out.symm] at h_; rw [KA24.out]; exact h_⟩
                                      obtain ⟨ad117, e117, hx117_0, hx117_1, hx117_2, hx117_3⟩ := at_T55 HR113.out x54_3 p117 q117
                                      cases e117
                                      replace p117 := eq_true p117
                                      replace q117 := eq_true q117
                                      go_wp2_with (first | ((with_reducible refine gate_dst (N := 13) rfl ?_); (try (refine gate_guard (by rfl) ?_; dsimp only)); refine box_event ?hg (N := 13) ?hd (cs := #[.bool false, .bool false, .int .i64 0, .int .i64 0]) (t := 55) ?hr ?_; (case hd => rfl); (case hg => rfl); (case hr => first | (go_simp; done) | (go_simp; rfl)); intro gb118 hg w49 hbox hb; have n0_ := Aside0.mk (Kd.R_below (Kd.R_elderB (by (with_reducible repeat (first | apply Kd.R_alloc | apply Kd.R_drewN | apply Kd.R_drew)); exact HO_5.out) gb118 (Nat.le_of_eq hg.symm)) hb); have n1_ := Aside0.mk (Kd.R_below (Kd.R_elderB (by (with_reducible repeat (first | apply Kd.R_alloc | apply Kd.R_drewN | apply Kd.R_drew)); exact HO_6.out) gb118 (Nat.le_of_eq hg.symm)) hb); have n2_ := Aside0.mk (blk_below (g := gb105) (o := .cells #[.bool x106000_1, .bool x106001_1, .int .i64 x106002_1, .int .i64 x106003_1] 55 (0, 0)) (by (with_reducible repeat (first | refine blk_drewN ?_ _ | refine blk_drew ?_ | refine blk_alloc ?_ _)); exact BK105.out) hb); have n3_ := Aside0.mk (blk_below (g := gb108) (o := .cells #[.int .u8 ((rd_T50 l0 x16_1).f0), .int .u8 ((rd_T50 l0 x16_1).f1)] 50 (0, 0)) (by (with_reducible repeat (first | refine blk_drewN ?_ _ | refine blk_drew ?_ | refine blk_alloc ?_ _)); exact BK108.out) hb); have n4_ := Aside0.mk (blk_below (g := gb116) (o := .cells #[.bool (decide (((rd_T50 l0 x16_1).f0) ≥ 19)), .bool true, .int .i64 x117002_3, .int .i64 x117003_3] 55 (0, 0)) (by (with_reducible repeat (first | refine blk_drewN ?_ _ | refine blk_drew ?_ | refine blk_alloc ?_ _)); exact BK116.out) hb); have n5_ := Aside0.mk (below_step (by repeat (first | (with_reducible first | exact HB.out | apply below_alloc | apply pw_below_drewN | apply below_drew1 | refine below_set ?_ GE105.out | refine below_set ?_ GE108.out | refine below_set ?_ GE116.out) | exact HB.out)) hb); have n6_ := Aside0.mk (hbox); have n7_ := Aside0.mk ((by rw [hg]; exact (below_size (by repeat (first | (with_reducible first | exact HB.out | apply below_alloc | apply pw_below_drewN | apply below_drew1 | refine below_set ?_ GE105.out | refine below_set ?_ GE108.out | refine below_set ?_ GE116.out) | exact HB.out))) : w.heap.size ≤ gb118)); have n8_ := Aside0.mk ((by rw [hg]; exact (below_size (by repeat (first | (with_reducible first | exact HB.out | apply below_alloc | apply pw_below_drewN | apply below_drew1 | refine below_set ?_ GE105.out | refine below_set ?_ GE108.out | refine below_set ?_ GE116.out) | exact HB.out))) : w.heap.size ≤ gb118)); have n9_ := Aside0.mk ((by rw [hg]; exact Nat.ne_of_lt (blk_lt (g := gb105) (o := .cells #[.bool x106000_1, .bool x106001_1, .int .i64 x106002_1, .int .i64 x106003_1] 55 (0, 0)) (by (with_reducible repeat (first | refine blk_drewN ?_ _ | refine blk_drew ?_ | refine blk_alloc ?_ _)); exact BK105.out)) : gb105 ≠ gb118)); have n10_ := Aside0.mk ((by rw [hg]; exact Nat.ne_of_gt (blk_lt (g := gb105) (o := .cells #[.bool x106000_1, .bool x106001_1, .int .i64 x106002_1, .int .i64 x106003_1] 55 (0, 0)) (by (with_reducible repeat (first | refine blk_drewN ?_ _ | refine blk_drew ?_ | refine blk_alloc ?_ _)); exact BK105.out)) : gb118 ≠ gb105)); have n11_ := Aside0.mk ((by rw [hg]; exact Nat.ne_of_lt (blk_lt (g := gb108) (o := .cells #[.int .u8 ((rd_T50 l0 x16_1).f0), .int .u8 ((rd_T50 l0 x16_1).f1)] 50 (0, 0)) (by (with_reducible repeat (first | refine blk_drewN ?_ _ | refine blk_drew ?_ | refine blk_alloc ?_ _)); exact BK108.out)) : gb108 ≠ gb118)); have n12_ := Aside0.mk ((by rw [hg]; exact Nat.ne_of_gt (blk_lt (g := gb108) (o := .cells #[.int .u8 ((rd_T50 l0 x16_1).f0), .int .u8 ((rd_T50 l0 x16_1).f1)] 50 (0, 0)) (by (with_reducible repeat (first | refine blk_drewN ?_ _ | refine blk_drew ?_ | refine blk_alloc ?_ _)); exact BK108.out)) : gb118 ≠ gb108)); have n13_ := Aside0.mk ((by rw [hg]; exact Nat.ne_of_lt (blk_lt (g := gb116) (o := .cells #[.bool (decide (((rd_T50 l0 x16_1).f0) ≥ 19)), .bool true, .int .i64 x117002_3, .int .i64 x117003_3] 55 (0, 0)) (by (with_reducible repeat (first | refine blk_drewN ?_ _ | refine blk_drew ?_ | refine blk_alloc ?_ _)); exact BK116.out)) : gb116 ≠ gb118)); have n14_ := Aside0.mk ((by rw [hg]; exact Nat.ne_of_gt (blk_lt (g := gb116) (o := .cells #[.bool (decide (((rd_T50 l0 x16_1).f0) ≥ 19)), .bool true, .int .i64 x117002_3, .int .i64 x117003_3] 55 (0, 0)) (by (with_reducible repeat (first | refine blk_drewN ?_ _ | refine blk_drew ?_ | refine blk_alloc ?_ _)); exact BK116.out)) : gb118 ≠ gb116)); clear HO_5; clear HO_6; clear BK105; clear BK108; clear BK116; clear HB; have HO_5 := n0_; have HO_6 := n1_; have BK105 := n2_; have BK108 := n3_; have BK116 := n4_; have HB := n5_; have BK118 := n6_; have GW118 := n7_; have GE118 := n8_; have NB105_118 := n9_; have NB118_105 := n10_; have NB108_118 := n11_; have NB118_108 := n12_; have NB116_118 := n13_; have NB118_116 := n14_; clear n0_ n1_ n2_ n3_ n4_ n5_ n6_ n7_ n8_ n9_ n10_ n11_ n12_ n13_ n14_; clear hb hbox hg; have hnb50 := NB118_105.out; have hnc50 := NB105_118.out; have hnb51 := NB118_108.out; have hnc51 := NB108_118.out; have hnb52 := NB118_116.out; have hnc52 := NB116_118.out; have hcz53_0 : w49.cell? ⟨gb118, 0, none⟩ = some (.bool false) := (blk_cell BK118.out 0).trans rfl; have hcz53_1 : w49.cell? ⟨gb118, 1, none⟩ = some (.bool false) := (blk_cell BK118.out 1).trans rfl; have hcz53_2 : w49.cell? ⟨gb118, 2, none⟩ = some (.int .i64 0) := (blk_cell BK118.out 2).trans rfl; have hcz53_3 : w49.cell? ⟨gb118, 3, none⟩ = some (.int .i64 0) := (blk_cell BK118.out 3).trans rfl; have hfz53_0 := blk_frozen BK118.out 0; have hfz53_1 := blk_frozen BK118.out 1; have hfz53_2 := blk_frozen BK118.out 2; have hfz53_3 := blk_frozen BK118.out 3; have hnb54 := NB116_105.out; have hnc54 := NB105_116.out; have hnb55 := NB116_108.out; have hnc55 := NB108_116.out; have hcz56_0 : w49.cell? ⟨gb116, 0, none⟩ = some (.bool (decide (((rd_T50 l0 x16_1).f0) ≥ 19))) := (blk_cell BK116.out 0).trans rfl; have hcz56_1 : w49.cell? ⟨gb116, 1, none⟩ = some (.bool true) := (blk_cell BK116.out 1).trans rfl; have hcz56_2 : w49.cell? ⟨gb116, 2, none⟩ = some (.int .i64 x117002_3) := (blk_cell BK116.out 2).trans rfl; have hcz56_3 : w49.cell? ⟨gb116, 3, none⟩ = some (.int .i64 x117003_3) := (blk_cell BK116.out 3).trans rfl; have hfz56_0 := blk_frozen BK116.out 0; have hfz56_1 := blk_frozen BK116.out 1; have hfz56_2 := blk_frozen BK116.out 2; have hfz56_3 := blk_frozen BK116.out 3))
                                      go_roundg k3
                                      case measure => have := HK1.out; have := HJ6.out; have := HK3.out; omega
                                      case rel => exact ⟨(wrap64 (x54_3 + 1)), ((rd_T55 y110 x54_3).f1), (ji39), (x117003_3), (by first | rfl | (simp; done) | (simp [*]; done)), H', ⟨by have := HK1.out; have := HJ6.out; have := HK3.out; omega⟩, ⟨by (with_reducible repeat (first | apply Kd.R_alloc | apply Kd.R_drewN | apply Kd.R_drew)); exact Kd.R_mono (Kd.R_far (p := ⟨gb116, 2, none⟩) (Kd.R_far (p := ⟨gb116, 1, none⟩) (Kd.R_far (p := ⟨gb118, 3, none⟩) (Kd.R_far (p := ⟨gb118, 2, none⟩) (Kd.R_far (p := ⟨gb118, 1, none⟩) (Kd.R_far (p := ⟨gb118, 0, none⟩) (Kd.R_mono (Kd.R_mono HO_5.out (fun k_ hk => (⟨hk, hk.2⟩ : _ ∧ k_ ≠ gb118))) (fun k_ hk => (⟨hk, hk.1.1.2.2⟩ : _ ∧ k_ ≠ gb116))) (fun _ hk => hk.1.2) (.bool ((rd_T55 y110 x54_3).f0))) (fun _ hk => hk.1.2) (.bool ((rd_T55 y110 x54_3).f1))) (fun _ hk => hk.1.2) (.int .i64 ((rd_T55 y110 x54_3).f2))) (fun _ hk => hk.1.2) (.int .i64 ((rd_T55 y110 x54_3).f3))) (fun _ hk => hk.2) (.bool ((rd_T55 y110 x54_3).f1))) (fun _ hk => hk.2) (.int .i64 ji39)) (fun _ hk => ⟨hk.1.1.1.1, ⟨hk.1.1.1.2.1, hk.1.1.1.2.2⟩⟩)⟩, ⟨by (with_reducible repeat (first | apply Kd.R_alloc | apply Kd.R_drewN | apply Kd.R_drew)); exact Kd.R_mono (Kd.R_far (p := ⟨gb116, 2, none⟩) (Kd.R_far (p := ⟨gb116, 1, none⟩) (Kd.R_far (p := ⟨gb118, 3, none⟩) (Kd.R_far (p := ⟨gb118, 2, none⟩) (Kd.R_far (p := ⟨gb118, 1, none⟩) (Kd.R_far (p := ⟨gb118, 0, none⟩) (Kd.R_mono (Kd.R_mono HO_6.out (fun k_ hk => (⟨hk, hk.2⟩ : _ ∧ k_ ≠ gb118))) (fun k_ hk => (⟨hk, hk.1.1.2.2⟩ : _ ∧ k_ ≠ gb116))) (fun _ hk => hk.1.2) (.bool ((rd_T55 y110 x54_3).f0))) (fun _ hk => hk.1.2) (.bool ((rd_T55 y110 x54_3).f1))) (fun _ hk => hk.1.2) (.int .i64 ((rd_T55 y110 x54_3).f2))) (fun _ hk => hk.1.2) (.int .i64 ((rd_T55 y110 x54_3).f3))) (fun _ hk => hk.2) (.bool ((rd_T55 y110 x54_3).f1))) (fun _ hk => hk.2) (.int .i64 ji39)) (fun _ hk => ⟨hk.1.1.1.1, ⟨hk.1.1.1.2.1, hk.1.1.1.2.2⟩⟩)⟩, ⟨by (with_reducible repeat (first | refine blk_drewN ?_ _ | refine blk_drew ?_ | refine blk_alloc ?_ _)); refine blk_far ?_ NB105_116.out _; (with_reducible repeat (first | refine blk_drewN ?_ _ | refine blk_drew ?_ | refine blk_alloc ?_ _)); refine blk_far ?_ NB105_116.out _; (with_reducible repeat (first | refine blk_drewN ?_ _ | refine blk_drew ?_ | refine blk_alloc ?_ _)); refine blk_far ?_ NB105_118.out _; (with_reducible repeat (first | refine blk_drewN ?_ _ | refine blk_drew ?_ | refine blk_alloc ?_ _)); refine blk_far ?_ NB105_118.out _; (with_reducible repeat (first | refine blk_drewN ?_ _ | refine blk_drew ?_ | refine blk_alloc ?_ _)); refine blk_far ?_ NB105_118.out _; (with_reducible repeat (first | refine blk_drewN ?_ _ | refine blk_drew ?_ | refine blk_alloc ?_ _)); refine blk_far ?_ NB105_118.out _; (with_reducible repeat (first | refine blk_drewN ?_ _ | refine blk_drew ?_ | refine blk_alloc ?_ _)); exact BK105.out⟩, ⟨by (with_reducible repeat (first | refine blk_drewN ?_ _ | refine blk_drew ?_ | refine blk_alloc ?_ _)); refine blk_far ?_ NB108_116.out _; (with_reducible repeat (first | refine blk_drewN ?_ _ | refine blk_drew ?_ | refine blk_alloc ?_ _)); refine blk_far ?_ NB108_116.out _; (with_reducible repeat (first | refine blk_drewN ?_ _ | refine blk_drew ?_ | refine blk_alloc ?_ _)); refine blk_far ?_ NB108_118.out _; (with_reducible repeat (first | refine blk_drewN ?_ _ | refine blk_drew ?_ | refine blk_alloc ?_ _)); refine blk_far ?_ NB108_118.out _; (with_reducible repeat (first | refine blk_drewN ?_ _ | refine blk_drew ?_ | refine blk_alloc ?_ _)); refine blk_far ?_ NB108_118.out _; (with_reducible repeat (first | refine blk_drewN ?_ _ | refine blk_drew ?_ | refine blk_alloc ?_ _)); refine blk_far ?_ NB108_118.out _; (with_reducible repeat (first | refine blk_drewN ?_ _ | refine blk_drew ?_ | refine blk_alloc ?_ _)); exact BK108.out⟩, ⟨by (with_reducible repeat (first | refine blk_drewN ?_ _ | refine blk_drew ?_ | refine blk_alloc ?_ _)); refine blk_put (cs := #[.bool (decide (((rd_T50 l0 x16_1).f0) ≥ 19)), .bool ((rd_T55 y110 x54_3).f1), .int .i64 x117002_3, .int .i64 x117003_3]) ?_ 2 _ rfl; (with_reducible repeat (first | refine blk_drewN ?_ _ | refine blk_drew ?_ | refine blk_alloc ?_ _)); refine blk_put (cs := #[.bool (decide (((rd_T50 l0 x16_1).f0) ≥ 19)), .bool true, .int .i64 x117002_3, .int .i64 x117003_3]) ?_ 1 _ rfl; (with_reducible repeat (first | refine blk_drewN ?_ _ | refine blk_drew ?_ | refine blk_alloc ?_ _)); refine blk_far ?_ NB116_118.out _; (with_reducible repeat (first | refine blk_drewN ?_ _ | refine blk_drew ?_ | refine blk_alloc ?_ _)); refine blk_far ?_ NB116_118.out _; (with_reducible repeat (first | refine blk_drewN ?_ _ | refine blk_drew ?_ | refine blk_alloc ?_ _)); refine blk_far ?_ NB116_118.out _; (with_reducible repeat (first | refine blk_drewN ?_ _ | refine blk_drew ?_ | refine blk_alloc ?_ _)); refine blk_far ?_ NB116_118.out _; (with_reducible repeat (first | refine blk_drewN ?_ _ | refine blk_drew ?_ | refine blk_alloc ?_ _)); exact BK116.out⟩, ⟨by repeat (first | (with_reducible first | exact HB.out | apply below_alloc | apply pw_below_drewN | apply below_drew1 | refine below_set ?_ GE105.out | refine below_set ?_ GE108.out | refine below_set ?_ GE116.out | refine below_set ?_ GE118.out) | exact HB.out)⟩⟩
                                  · replace c38 := Bool.eq_false_iff.mpr c38
                                    subst c38
                                    have H1 : (if x54_3 = 0 then (term_read.l1 k3 x5_1 x6_1 t109 l0 (l0.length : Int) x16_1 y110 (y110.length : Int) (wrap64 (x54_3 + 1)) (decide (((rd_T50 l0 x16_1).f0) ≥ 19)) false (mx x117002_3 (wrap64 (((rd_T55 y110 x54_3).f2) + 1))) ((rd_T55 y110 x54_3).f3)) else (term_read.l1 k3 x5_1 x6_1 t109 l0 (l0.length : Int) x16_1 y110 (y110.length : Int) (wrap64 (x54_3 + 1)) (decide (((rd_T50 l0 x16_1).f0) ≥ 19)) false (mx x117002_3 (wrap64 (((rd_T55 y110 x54_3).f2) + 1))) x117003_3)) = some (r1, r2, r3, r4, r5, r6) := by rw [if_neg (show ¬ (false = true) by decide)] at H; exact H
                                    clear H
                                    have H := H1
                                    clear H1
                                    obtain ⟨ji57, hji57⟩ : ∃ j_ : Int, (mx x117002_3 (wrap64 (((rd_T55 y110 x54_3).f2) + 1))) = j_ := ⟨_, rfl⟩
                                    replace H : (if x54_3 = 0 then (term_read.l1 k3 x5_1 x6_1 t109 l0 (l0.length : Int) x16_1 y110 (y110.length : Int) (wrap64 (x54_3 + 1)) (decide (((rd_T50 l0 x16_1).f0) ≥ 19)) false ji57 ((rd_T55 y110 x54_3).f3)) else (term_read.l1 k3 x5_1 x6_1 t109 l0 (l0.length : Int) x16_1 y110 (y110.length : Int) (wrap64 (x54_3 + 1)) (decide (((rd_T50 l0 x16_1).f0) ≥ 19)) false ji57 x117003_3)) = some (r1, r2, r3, r4, r5, r6) := by first | (rw [hji57] at H; exact H) | (simp only [hji57] at H ⊢; exact H)
                                    have hji57_ : (if x117002_3 < (wrap64 (((rd_T55 y110 x54_3).f2) + 1)) then (wrap64 (((rd_T55 y110 x54_3).f2) + 1)) else x117002_3) = ji57 := hji57
                                    by_cases c58 : x54_3 = 0
                                    · rw [if_pos c58] at H
                                      have c58b0 : (x54_3 == 0) = true := beq_iff_eq.mpr c58
                                      have c58b1 : (x54_3 != 0) = false := bne_eq_false_iff_eq.mpr c58
                                      clear c58
                                      have H' := Aside0.mk H
                                      clear H
                                      have p117 : 0 ≤ (x54_3 : Int) := of_decide_eq_true (by first | (with_reducible assumption) | assumption)
                                      have q117 : x54_3 < (y110.length : Int) := of_decide_eq_true (by first | (with_reducible assumption) | assumption)
                                      have HR113 : Aside0 (Kd.C k55 wr A24 y110.length y110) := ⟨by have h_ := Kd.C_drop (m := ((ji17) : Int).toNat) (c := co23) (Kd.R_reads' HO_6.out).2.2 KL24.out (Kd.R_reads' HO_6.out).2.1; rw [show (x6_1).drop ((ji17) : Int).toNat = y110 from Ny110.out.symm] at h_; rw [KA24.out]; exact h_⟩
                                      obtain ⟨ad117, e117, hx117_0, hx117_1, hx117_2, hx117_3⟩ := at_T55 HR113.out x54_3 p117 q117
                                      cases e117
                                      replace p117 := eq_true p117
                                      replace q117 := eq_true q117
                                      go_wp2_with (first | ((with_reducible refine gate_dst (N := 13) rfl ?_); (try (refine gate_guard (by rfl) ?_; dsimp only)); refine box_event ?hg (N := 13) ?hd (cs := #[.bool false, .bool false, .int .i64 0, .int .i64 0]) (t := 55) ?hr ?_; (case hd => rfl); (case hg => rfl); (case hr => first | (go_simp; done) | (go_simp; rfl)); intro gb118 hg w59 hbox hb; have n0_ := Aside0.mk (Kd.R_below (Kd.R_elderB (by (with_reducible repeat (first | apply Kd.R_alloc | apply Kd.R_drewN | apply Kd.R_drew)); exact HO_5.out) gb118 (Nat.le_of_eq hg.symm)) hb); have n1_ := Aside0.mk (Kd.R_below (Kd.R_elderB (by (with_reducible repeat (first | apply Kd.R_alloc | apply Kd.R_drewN | apply Kd.R_drew)); exact HO_6.out) gb118 (Nat.le_of_eq hg.symm)) hb); have n2_ := Aside0.mk (blk_below (g := gb105) (o := .cells #[.bool x106000_1, .bool x106001_1, .int .i64 x106002_1, .int .i64 x106003_1] 55 (0, 0)) (by (with_reducible repeat (first | refine blk_drewN ?_ _ | refine blk_drew ?_ | refine blk_alloc ?_ _)); exact BK105.out) hb); have n3_ := Aside0.mk (blk_below (g := gb108) (o := .cells #[.int .u8 ((rd_T50 l0 x16_1).f0), .int .u8 ((rd_T50 l0 x16_1).f1)] 50 (0, 0)) (by (with_reducible repeat (first | refine blk_drewN ?_ _ | refine blk_drew ?_ | refine blk_alloc ?_ _)); exact BK108.out) hb); have n4_ := Aside0.mk (blk_below (g := gb116) (o := .cells #[.bool (decide (((rd_T50 l0 x16_1).f0) ≥ 19)), .bool false, .int .i64 x117002_3, .int .i64 x117003_3] 55 (0, 0)) (by (with_reducible repeat (first | refine blk_drewN ?_ _ | refine blk_drew ?_ | refine blk_alloc ?_ _)); exact BK116.out) hb); have n5_ := Aside0.mk (below_step (by repeat (first | (with_reducible first | exact HB.out | apply below_alloc | apply pw_below_drewN | apply below_drew1 | refine below_set ?_ GE105.out | refine below_set ?_ GE108.out | refine below_set ?_ GE116.out) | exact HB.out)) hb); have n6_ := Aside0.mk (hbox); have n7_ := Aside0.mk ((by rw [hg]; exact (below_size (by repeat (first | (with_reducible first | exact HB.out | apply below_alloc | apply pw_below_drewN | apply below_drew1 | refine below_set ?_ GE105.out | refine below_set ?_ GE108.out | refine below_set ?_ GE116.out) | exact HB.out))) : w.heap.size ≤ gb118)); have n8_ := Aside0.mk ((by rw [hg]; exact (below_size (by repeat (first | (with_reducible first | exact HB.out | apply below_alloc | apply pw_below_drewN | apply below_drew1 | refine below_set ?_ GE105.out | refine below_set ?_ GE108.out | refine below_set ?_ GE116.out) | exact HB.out))) : w.heap.size ≤ gb118)); have n9_ := Aside0.mk ((by rw [hg]; exact Nat.ne_of_lt (blk_lt (g := gb105) (o := .cells #[.bool x106000_1, .bool x106001_1, .int .i64 x106002_1, .int .i64 x106003_1] 55 (0, 0)) (by (with_reducible repeat (first | refine blk_drewN ?_ _ | refine blk_drew ?_ | refine blk_alloc ?_ _)); exact BK105.out)) : gb105 ≠ gb118)); have n10_ := Aside0.mk ((by rw [hg]; exact Nat.ne_of_gt (blk_lt (g := gb105) (o := .cells #[.bool x106000_1, .bool x106001_1, .int .i64 x106002_1, .int .i64 x106003_1] 55 (0, 0)) (by (with_reducible repeat (first | refine blk_drewN ?_ _ | refine blk_drew ?_ | refine blk_alloc ?_ _)); exact BK105.out)) : gb118 ≠ gb105)); have n11_ := Aside0.mk ((by rw [hg]; exact Nat.ne_of_lt (blk_lt (g := gb108) (o := .cells #[.int .u8 ((rd_T50 l0 x16_1).f0), .int .u8 ((rd_T50 l0 x16_1).f1)] 50 (0, 0)) (by (with_reducible repeat (first | refine blk_drewN ?_ _ | refine blk_drew ?_ | refine blk_alloc ?_ _)); exact BK108.out)) : gb108 ≠ gb118)); have n12_ := Aside0.mk ((by rw [hg]; exact Nat.ne_of_gt (blk_lt (g := gb108) (o := .cells #[.int .u8 ((rd_T50 l0 x16_1).f0), .int .u8 ((rd_T50 l0 x16_1).f1)] 50 (0, 0)) (by (with_reducible repeat (first | refine blk_drewN ?_ _ | refine blk_drew ?_ | refine blk_alloc ?_ _)); exact BK108.out)) : gb118 ≠ gb108)); have n13_ := Aside0.mk ((by rw [hg]; exact Nat.ne_of_lt (blk_lt (g := gb116) (o := .cells #[.bool (decide (((rd_T50 l0 x16_1).f0) ≥ 19)), .bool false, .int .i64 x117002_3, .int .i64 x117003_3] 55 (0, 0)) (by (with_reducible repeat (first | refine blk_drewN ?_ _ | refine blk_drew ?_ | refine blk_alloc ?_ _)); exact BK116.out)) : gb116 ≠ gb118)); have n14_ := Aside0.mk ((by rw [hg]; exact Nat.ne_of_gt (blk_lt (g := gb116) (o := .cells #[.bool (decide (((rd_T50 l0 x16_1).f0) ≥ 19)), .bool false, .int .i64 x117002_3, .int .i64 x117003_3] 55 (0, 0)) (by (with_reducible repeat (first | refine blk_drewN ?_ _ | refine blk_drew ?_ | refine blk_alloc ?_ _)); exact BK116.out)) : gb118 ≠ gb116)); clear HO_5; clear HO_6; clear BK105; clear BK108; clear BK116; clear HB; have HO_5 := n0_; have HO_6 := n1_; have BK105 := n2_; have BK108 := n3_; have BK116 := n4_; have HB := n5_; have BK118 := n6_; have GW118 := n7_; have GE118 := n8_; have NB105_118 := n9_; have NB118_105 := n10_; have NB108_118 := n11_; have NB118_108 := n12_; have NB116_118 := n13_; have NB118_116 := n14_; clear n0_ n1_ n2_ n3_ n4_ n5_ n6_ n7_ n8_ n9_ n10_ n11_ n12_ n13_ n14_; clear hb hbox hg; have hnb60 := NB118_105.out; have hnc60 := NB105_118.out; have hnb61 := NB118_108.out; have hnc61 := NB108_118.out; have hnb62 := NB118_116.out; have hnc62 := NB116_118.out; have hcz63_0 : w59.cell? ⟨gb118, 0, none⟩ = some (.bool false) := (blk_cell BK118.out 0).trans rfl; have hcz63_1 : w59.cell? ⟨gb118, 1, none⟩ = some (.bool false) := (blk_cell BK118.out 1).trans rfl; have hcz63_2 : w59.cell? ⟨gb118, 2, none⟩ = some (.int .i64 0) := (blk_cell BK118.out 2).trans rfl; have hcz63_3 : w59.cell? ⟨gb118, 3, none⟩ = some (.int .i64 0) := (blk_cell BK118.out 3).trans rfl; have hfz63_0 := blk_frozen BK118.out 0; have hfz63_1 := blk_frozen BK118.out 1; have hfz63_2 := blk_frozen BK118.out 2; have hfz63_3 := blk_frozen BK118.out 3; have hnb64 := NB116_105.out; have hnc64 := NB105_116.out; have hnb65 := NB116_108.out; have hnc65 := NB108_116.out; have hcz66_0 : w59.cell? ⟨gb116, 0, none⟩ = some (.bool (decide (((rd_T50 l0 x16_1).f0) ≥ 19))) := (blk_cell BK116.out 0).trans rfl; have hcz66_1 : w59.cell? ⟨gb116, 1, none⟩ = some (.bool false) := (blk_cell BK116.out 1).trans rfl; have hcz66_2 : w59.cell? ⟨gb116, 2, none⟩ = some (.int .i64 x117002_3) := (blk_cell BK116.out 2).trans rfl; have hcz66_3 : w59.cell? ⟨gb116, 3, none⟩ = some (.int .i64 x117003_3) := (blk_cell BK116.out 3).trans rfl; have hfz66_0 := blk_frozen BK116.out 0; have hfz66_1 := blk_frozen BK116.out 1; have hfz66_2 := blk_frozen BK116.out 2; have hfz66_3 := blk_frozen BK116.out 3))
                                      go_roundg k3
                                      case measure => have := HK1.out; have := HJ6.out; have := HK3.out; omega
                                      case rel => exact ⟨(wrap64 (x54_3 + 1)), (false), (ji57), ((rd_T55 y110 x54_3).f3), (by first | rfl | (simp; done) | (simp [*]; done)), H', ⟨by have := HK1.out; have := HJ6.out; have := HK3.out; omega⟩, ⟨by (with_reducible repeat (first | apply Kd.R_alloc | apply Kd.R_drewN | apply Kd.R_drew)); exact Kd.R_mono (Kd.R_far (p := ⟨gb116, 3, none⟩) (Kd.R_far (p := ⟨gb116, 2, none⟩) (Kd.R_far (p := ⟨gb116, 1, none⟩) (Kd.R_far (p := ⟨gb118, 3, none⟩) (Kd.R_far (p := ⟨gb118, 2, none⟩) (Kd.R_far (p := ⟨gb118, 1, none⟩) (Kd.R_far (p := ⟨gb118, 0, none⟩) (Kd.R_mono (Kd.R_mono HO_5.out (fun k_ hk => (⟨hk, hk.2⟩ : _ ∧ k_ ≠ gb118))) (fun k_ hk => (⟨hk, hk.1.1.2.2⟩ : _ ∧ k_ ≠ gb116))) (fun _ hk => hk.1.2) (.bool ((rd_T55 y110 x54_3).f0))) (fun _ hk => hk.1.2) (.bool ((rd_T55 y110 x54_3).f1))) (fun _ hk => hk.1.2) (.int .i64 ((rd_T55 y110 x54_3).f2))) (fun _ hk => hk.1.2) (.int .i64 ((rd_T55 y110 x54_3).f3))) (fun _ hk => hk.2) (.bool false)) (fun _ hk => hk.2) (.int .i64 ji57)) (fun _ hk => hk.2) (.int .i64 ((rd_T55 y110 x54_3).f3))) (fun _ hk => ⟨hk.1.1.1.1, ⟨hk.1.1.1.2.1, hk.1.1.1.2.2⟩⟩)⟩, ⟨by (with_reducible repeat (first | apply Kd.R_alloc | apply Kd.R_drewN | apply Kd.R_drew)); exact Kd.R_mono (Kd.R_far (p := ⟨gb116, 3, none⟩) (Kd.R_far (p := ⟨gb116, 2, none⟩) (Kd.R_far (p := ⟨gb116, 1, none⟩) (Kd.R_far (p := ⟨gb118, 3, none⟩) (Kd.R_far (p := ⟨gb118, 2, none⟩) (Kd.R_far (p := ⟨gb118, 1, none⟩) (Kd.R_far (p := ⟨gb118, 0, none⟩) (Kd.R_mono (Kd.R_mono HO_6.out (fun k_ hk => (⟨hk, hk.2⟩ : _ ∧ k_ ≠ gb118))) (fun k_ hk => (⟨hk, hk.1.1.2.2⟩ : _ ∧ k_ ≠ gb116))) (fun _ hk => hk.1.2) (.bool ((rd_T55 y110 x54_3).f0))) (fun _ hk => hk.1.2) (.bool ((rd_T55 y110 x54_3).f1))) (fun _ hk => hk.1.2) (.int .i64 ((rd_T55 y110 x54_3).f2))) (fun _ hk => hk.1.2) (.int .i64 ((rd_T55 y110 x54_3).f3))) (fun _ hk => hk.2) (.bool false)) (fun _ hk => hk.2) (.int .i64 ji57)) (fun _ hk => hk.2) (.int .i64 ((rd_T55 y110 x54_3).f3))) (fun _ hk => ⟨hk.1.1.1.1, ⟨hk.1.1.1.2.1, hk.1.1.1.2.2⟩⟩)⟩, ⟨by (with_reducible repeat (first | refine blk_drewN ?_ _ | refine blk_drew ?_ | refine blk_alloc ?_ _)); refine blk_far ?_ NB105_116.out _; (with_reducible repeat (first | refine blk_drewN ?_ _ | refine blk_drew ?_ | refine blk_alloc ?_ _)); refine blk_far ?_ NB105_116.out _; (with_reducible repeat (first | refine blk_drewN ?_ _ | refine blk_drew ?_ | refine blk_alloc ?_ _)); refine blk_far ?_ NB105_116.out _; (with_reducible repeat (first | refine blk_drewN ?_ _ | refine blk_drew ?_ | refine blk_alloc ?_ _)); refine blk_far ?_ NB105_118.out _; (with_reducible repeat (first | refine blk_drewN ?_ _ | refine blk_drew ?_ | refine blk_alloc ?_ _)); refine blk_far ?_ NB105_118.out _; (with_reducible repeat (first | refine blk_drewN ?_ _ | refine blk_drew ?_ | refine blk_alloc ?_ _)); refine blk_far ?_ NB105_118.out _; (with_reducible repeat (first | refine blk_drewN ?_ _ | refine blk_drew ?_ | refine blk_alloc ?_ _)); refine blk_far ?_ NB105_118.out _; (with_reducible repeat (first | refine blk_drewN ?_ _ | refine blk_drew ?_ | refine blk_alloc ?_ _)); exact BK105.out⟩, ⟨by (with_reducible repeat (first | refine blk_drewN ?_ _ | refine blk_drew ?_ | refine blk_alloc ?_ _)); refine blk_far ?_ NB108_116.out _; (with_reducible repeat (first | refine blk_drewN ?_ _ | refine blk_drew ?_ | refine blk_alloc ?_ _)); refine blk_far ?_ NB108_116.out _; (with_reducible repeat (first | refine blk_drewN ?_ _ | refine blk_drew ?_ | refine blk_alloc ?_ _)); refine blk_far ?_ NB108_116.out _; (with_reducible repeat (first | refine blk_drewN ?_ _ | refine blk_drew ?_ | refine blk_alloc ?_ _)); refine blk_far ?_ NB108_118.out _; (with_reducible repeat (first | refine blk_drewN ?_ _ | refine blk_drew ?_ | refine blk_alloc ?_ _)); refine blk_far ?_ NB108_118.out _; (with_reducible repeat (first | refine blk_drewN ?_ _ | refine blk_drew ?_ | refine blk_alloc ?_ _)); refine blk_far ?_ NB108_118.out _; (with_reducible repeat (first | refine blk_drewN ?_ _ | refine blk_drew ?_ | refine blk_alloc ?_ _)); refine blk_far ?_ NB108_118.out _; (with_reducible repeat (first | refine blk_drewN ?_ _ | refine blk_drew ?_ | refine blk_alloc ?_ _)); exact BK108.out⟩, ⟨by (with_reducible repeat (first | refine blk_drewN ?_ _ | refine blk_drew ?_ | refine blk_alloc ?_ _)); refine blk_put (cs := #[.bool (decide (((rd_T50 l0 x16_1).f0) ≥ 19)), .bool false, .int .i64 ji57, .int .i64 x117003_3]) ?_ 3 _ rfl; (with_reducible repeat (first | refine blk_drewN ?_ _ | refine blk_drew ?_ | refine blk_alloc ?_ _)); refine blk_put (cs := #[.bool (decide (((rd_T50 l0 x16_1).f0) ≥ 19)), .bool false, .int .i64 x117002_3, .int .i64 x117003_3]) ?_ 2 _ rfl; (with_reducible repeat (first | refine blk_drewN ?_ _ | refine blk_drew ?_ | refine blk_alloc ?_ _)); refine blk_put (cs := #[.bool (decide (((rd_T50 l0 x16_1).f0) ≥ 19)), .bool false, .int .i64 x117002_3, .int .i64 x117003_3]) ?_ 1 _ rfl; (with_reducible repeat (first | refine blk_drewN ?_ _ | refine blk_drew ?_ | refine blk_alloc ?_ _)); refine blk_far ?_ NB116_118.out _; (with_reducible repeat (first | refine blk_drewN ?_ _ | refine blk_drew ?_ | refine blk_alloc ?_ _)); refine blk_far ?_ NB116_118.out _; (with_reducible repeat (first | refine blk_drewN ?_ _ | refine blk_drew ?_ | refine blk_alloc ?_ _)); refine blk_far ?_ NB116_118.out _; (with_reducible repeat (first | refine blk_drewN ?_ _ | refine blk_drew ?_ | refine blk_alloc ?_ _)); refine blk_far ?_ NB116_118.out _; (with_reducible repeat (first | refine blk_drewN ?_ _ | refine blk_drew ?_ | refine blk_alloc ?_ _)); exact BK116.out⟩, ⟨by repeat (first | (with_reducible first | exact HB.out | apply below_alloc | apply pw_below_drewN | apply below_drew1 | refine below_set ?_ GE105.out | refine below_set ?_ GE108.out | refine below_set ?_ GE116.out | refine below_set ?_ GE118.out) | exact HB.out)⟩⟩
                                    · rw [if_neg c58] at H
                                      have c58b0 : (x54_3 == 0) = false := beq_eq_false_iff_ne.mpr c58
                                      have c58b1 : (x54_3 != 0) = true := bne_iff_ne.mpr c58
                                      have H' := Aside0.mk H
                                      clear H
                                      have p117 : 0 ≤ (x54_3 : Int) := of_decide_eq_true (by first | (with_reducible assumption) | assumption)
                                      have q117 : x54_3 < (y110.length : Int) := of_decide_eq_true (by first | (with_reducible assumption) | assumption)
                                      have HR113 : Aside0 (Kd.C k55 wr A24 y110.length y110) := ⟨by have h_ := Kd.C_drop (m := ((ji17) : Int).toNat) (c := co23) (Kd.R_reads' HO_6.out).2.2 KL24.out (Kd.R_reads' HO_6.out).2.1; rw [show (x6_1).drop ((ji17) : Int).toNat = y110 from Ny110.out.symm] at h_; rw [KA24.out]; exact h_⟩
                                      obtain ⟨ad117, e117, hx117_0, hx117_1, hx117_2, hx117_3⟩ := at_T55 HR113.out x54_3 p117 q117
                                      cases e117
                                      replace p117 := eq_true p117
                                      replace q117 := eq_true q117
                                      go_wp2_with (first | ((with_reducible refine gate_dst (N := 13) rfl ?_); (try (refine gate_guard (by rfl) ?_; dsimp only)); refine box_event ?hg (N := 13) ?hd (cs := #[.bool false, .bool false, .int .i64 0, .int .i64 0]) (t := 55) ?hr ?_; (case hd => rfl); (case hg => rfl); (case hr => first | (go_simp; done) | (go_simp; rfl)); intro gb118 hg w67 hbox hb; have n0_ := Aside0.mk (Kd.R_below (Kd.R_elderB (by (with_reducible repeat (first | apply Kd.R_alloc | apply Kd.R_drewN | apply Kd.R_drew)); exact HO_5.out) gb118 (Nat.le_of_eq hg.symm)) hb); have n1_ := Aside0.mk (Kd.R_below (Kd.R_elderB (by (with_reducible repeat (first | apply Kd.R_alloc | apply Kd.R_drewN | apply Kd.R_drew)); exact HO_6.out) gb118 (Nat.le_of_eq hg.symm)) hb); have n2_ := Aside0.mk (blk_below (g := gb105) (o := .cells #[.bool x106000_1, .bool x106001_1, .int .i64 x106002_1, .int .i64 x106003_1] 55 (0, 0)) (by (with_reducible repeat (first | refine blk_drewN ?_ _ | refine blk_drew ?_ | refine blk_alloc ?_ _)); exact BK105.out) hb); have n3_ := Aside0.mk (blk_below (g := gb108) (o := .cells #[.int .u8 ((rd_T50 l0 x16_1).f0), .int .u8 ((rd_T50 l0 x16_1).f1)] 50 (0, 0)) (by (with_reducible repeat (first | refine blk_drewN ?_ _ | refine blk_drew ?_ | refine blk_alloc ?_ _)); exact BK108.out) hb); have n4_ := Aside0.mk (blk_below (g := gb116) (o := .cells #[.bool (decide (((rd_T50 l0 x16_1).f0) ≥ 19)), .bool false, .int .i64 x117002_3, .int .i64 x117003_3] 55 (0, 0)) (by (with_reducible repeat (first | refine blk_drewN ?_ _ | refine blk_drew ?_ | refine blk_alloc ?_ _)); exact BK116.out) hb); have n5_ := Aside0.mk (below_step (by repeat (first | (with_reducible first | exact HB.out | apply below_alloc | apply pw_below_drewN | apply below_drew1 | refine below_set ?_ GE105.out | refine below_set ?_ GE108.out | refine below_set ?_ GE116.out) | exact HB.out)) hb); have n6_ := Aside0.mk (hbox); have n7_ := Aside0.mk ((by rw [hg]; exact (below_size (by repeat (first | (with_reducible first | exact HB.out | apply below_alloc | apply pw_below_drewN | apply below_drew1 | refine below_set ?_ GE105.out | refine below_set ?_ GE108.out | refine below_set ?_ GE116.out) | exact HB.out))) : w.heap.size ≤ gb118)); have n8_ := Aside0.mk ((by rw [hg]; exact (below_size (by repeat (first | (with_reducible first | exact HB.out | apply below_alloc | apply pw_below_drewN | apply below_drew1 | refine below_set ?_ GE105.out | refine below_set ?_ GE108.out | refine below_set ?_ GE116.out) | exact HB.out))) : w.heap.size ≤ gb118)); have n9_ := Aside0.mk ((by rw [hg]; exact Nat.ne_of_lt (blk_lt (g := gb105) (o := .cells #[.bool x106000_1, .bool x106001_1, .int .i64 x106002_1, .int .i64 x106003_1] 55 (0, 0)) (by (with_reducible repeat (first | refine blk_drewN ?_ _ | refine blk_drew ?_ | refine blk_alloc ?_ _)); exact BK105.out)) : gb105 ≠ gb118)); have n10_ := Aside0.mk ((by rw [hg]; exact Nat.ne_of_gt (blk_lt (g := gb105) (o := .cells #[.bool x106000_1, .bool x106001_1, .int .i64 x106002_1, .int .i64 x106003_1] 55 (0, 0)) (by (with_reducible repeat (first | refine blk_drewN ?_ _ | refine blk_drew ?_ | refine blk_alloc ?_ _)); exact BK105.out)) : gb118 ≠ gb105)); have n11_ := Aside0.mk ((by rw [hg]; exact Nat.ne_of_lt (blk_lt (g := gb108) (o := .cells #[.int .u8 ((rd_T50 l0 x16_1).f0), .int .u8 ((rd_T50 l0 x16_1).f1)] 50 (0, 0)) (by (with_reducible repeat (first | refine blk_drewN ?_ _ | refine blk_drew ?_ | refine blk_alloc ?_ _)); exact BK108.out)) : gb108 ≠ gb118)); have n12_ := Aside0.mk ((by rw [hg]; exact Nat.ne_of_gt (blk_lt (g := gb108) (o := .cells #[.int .u8 ((rd_T50 l0 x16_1).f0), .int .u8 ((rd_T50 l0 x16_1).f1)] 50 (0, 0)) (by (with_reducible repeat (first | refine blk_drewN ?_ _ | refine blk_drew ?_ | refine blk_alloc ?_ _)); exact BK108.out)) : gb118 ≠ gb108)); have n13_ := Aside0.mk ((by rw [hg]; exact Nat.ne_of_lt (blk_lt (g := gb116) (o := .cells #[.bool (decide (((rd_T50 l0 x16_1).f0) ≥ 19)), .bool false, .int .i64 x117002_3, .int .i64 x117003_3] 55 (0, 0)) (by (with_reducible repeat (first | refine blk_drewN ?_ _ | refine blk_drew ?_ | refine blk_alloc ?_ _)); exact BK116.out)) : gb116 ≠ gb118)); have n14_ := Aside0.mk ((by rw [hg]; exact Nat.ne_of_gt (blk_lt (g := gb116) (o := .cells #[.bool (decide (((rd_T50 l0 x16_1).f0) ≥ 19)), .bool false, .int .i64 x117002_3, .int .i64 x117003_3] 55 (0, 0)) (by (with_reducible repeat (first | refine blk_drewN ?_ _ | refine blk_drew ?_ | refine blk_alloc ?_ _)); exact BK116.out)) : gb118 ≠ gb116)); clear HO_5; clear HO_6; clear BK105; clear BK108; clear BK116; clear HB; have HO_5 := n0_; have HO_6 := n1_; have BK105 := n2_; have BK108 := n3_; have BK116 := n4_; have HB := n5_; have BK118 := n6_; have GW118 := n7_; have GE118 := n8_; have NB105_118 := n9_; have NB118_105 := n10_; have NB108_118 := n11_; have NB118_108 := n12_; have NB116_118 := n13_; have NB118_116 := n14_; clear n0_ n1_ n2_ n3_ n4_ n5_ n6_ n7_ n8_ n9_ n10_ n11_ n12_ n13_ n14_; clear hb hbox hg; have hnb68 := NB118_105.out; have hnc68 := NB105_118.out; have hnb69 := NB118_108.out; have hnc69 := NB108_118.out; have hnb70 := NB118_116.out; have hnc70 := NB116_118.out; have hcz71_0 : w67.cell? ⟨gb118, 0, none⟩ = some (.bool false) := (blk_cell BK118.out 0).trans rfl; have hcz71_1 : w67.cell? ⟨gb118, 1, none⟩ = some (.bool false) := (blk_cell BK118.out 1).trans rfl; have hcz71_2 : w67.cell? ⟨gb118, 2, none⟩ = some (.int .i64 0) := (blk_cell BK118.out 2).trans rfl; have hcz71_3 : w67.cell? ⟨gb118, 3, none⟩ = some (.int .i64 0) := (blk_cell BK118.out 3).trans rfl; have hfz71_0 := blk_frozen BK118.out 0; have hfz71_1 := blk_frozen BK118.out 1; have hfz71_2 := blk_frozen BK118.out 2; have hfz71_3 := blk_frozen BK118.out 3; have hnb72 := NB116_105.out; have hnc72 := NB105_116.out; have hnb73 := NB116_108.out; have hnc73 := NB108_116.out; have hcz74_0 : w67.cell? ⟨gb116, 0, none⟩ = some (.bool (decide (((rd_T50 l0 x16_1).f0) ≥ 19))) := (blk_cell BK116.out 0).trans rfl; have hcz74_1 : w67.cell? ⟨gb116, 1, none⟩ = some (.bool false) := (blk_cell BK116.out 1).trans rfl; have hcz74_2 : w67.cell? ⟨gb116, 2, none⟩ = some (.int .i64 x117002_3) := (blk_cell BK116.out 2).trans rfl; have hcz74_3 : w67.cell? ⟨gb116, 3, none⟩ = some (.int .i64 x117003_3) := (blk_cell BK116.out 3).trans rfl; have hfz74_0 := blk_frozen BK116.out 0; have hfz74_1 := blk_frozen BK116.out 1; have hfz74_2 := blk_frozen BK116.out 2; have hfz74_3 := blk_frozen BK116.out 3))
                                      go_roundg k3
                                      case measure => have := HK1.out; have := HJ6.out; have := HK3.out; omega
                                      case rel => exact ⟨(wrap64 (x54_3 + 1)), (false), (ji57), (x117003_3), (by first | rfl | (simp; done) | (simp [*]; done)), H', ⟨by have := HK1.out; have := HJ6.out; have := HK3.out; omega⟩, ⟨by (with_reducible repeat (first | apply Kd.R_alloc | apply Kd.R_drewN | apply Kd.R_drew)); exact Kd.R_mono (Kd.R_far (p := ⟨gb116, 2, none⟩) (Kd.R_far (p := ⟨gb116, 1, none⟩) (Kd.R_far (p := ⟨gb118, 3, none⟩) (Kd.R_far (p := ⟨gb118, 2, none⟩) (Kd.R_far (p := ⟨gb118, 1, none⟩) (Kd.R_far (p := ⟨gb118, 0, none⟩) (Kd.R_mono (Kd.R_mono HO_5.out (fun k_ hk => (⟨hk, hk.2⟩ : _ ∧ k_ ≠ gb118))) (fun k_ hk => (⟨hk, hk.1.1.2.2⟩ : _ ∧ k_ ≠ gb116))) (fun _ hk => hk.1.2) (.bool ((rd_T55 y110 x54_3).f0))) (fun _ hk => hk.1.2) (.bool ((rd_T55 y110 x54_3).f1))) (fun _ hk => hk.1.2) (.int .i64 ((rd_T55 y110 x54_3).f2))) (fun _ hk => hk.1.2) (.int .i64 ((rd_T55 y110 x54_3).f3))) (fun _ hk => hk.2) (.bool false)) (fun _ hk => hk.2) (.int .i64 ji57)) (fun _ hk => ⟨hk.1.1.1.1, ⟨hk.1.1.1.2.1, hk.1.1.1.2.2⟩⟩)⟩, ⟨by (with_reducible repeat (first | apply Kd.R_alloc | apply Kd.R_drewN | apply Kd.R_drew)); exact Kd.R_mono (Kd.R_far (p := ⟨gb116, 2, none⟩) (Kd.R_far (p := ⟨gb116, 1, none⟩) (Kd.R_far (p := ⟨gb118, 3, none⟩) (Kd.R_far (p := ⟨gb118, 2, none⟩) (Kd.R_far (p := ⟨gb118, 1, none⟩) (Kd.R_far (p := ⟨gb118, 0, none⟩) (Kd.R_mono (Kd.R_mono HO_6.out (fun k_ hk => (⟨hk, hk.2⟩ : _ ∧ k_ ≠ gb118))) (fun k_ hk => (⟨hk, hk.1.1.2.2⟩ : _ ∧ k_ ≠ gb116))) (fun _ hk => hk.1.2) (.bool ((rd_T55 y110 x54_3).f0))) (fun _ hk => hk.1.2) (.bool ((rd_T55 y110 x54_3).f1))) (fun _ hk => hk.1.2) (.int .i64 ((rd_T55 y110 x54_3).f2))) (fun _ hk => hk.1.2) (.int .i64 ((rd_T55 y110 x54_3).f3))) (fun _ hk => hk.2) (.bool false)) (fun _ hk => hk.2) (.int .i64 ji57)) (fun _ hk => ⟨hk.1.1.1.1, ⟨hk.1.1.1.2.1, hk.1.1.1.2.2⟩⟩)⟩, ⟨by (with_reducible repeat (first | refine blk_drewN ?_ _ | refine blk_drew ?_ | refine blk_alloc ?_ _)); refine blk_far ?_ NB105_116.out _; (with_reducible repeat (first | refine blk_drewN ?_ _ | refine blk_drew ?_ | refine blk_alloc ?_ _)); refine blk_far ?_ NB105_116.out _; (with_reducible repeat (first | refine blk_drewN ?_ _ | refine blk_drew ?_ | refine blk_alloc ?_ _)); refine blk_far ?_ NB105_118.out _; (with_reducible repeat (first | refine blk_drewN ?_ _ | refine blk_drew ?_ | refine blk_alloc ?_ _)); refine blk_far ?_ NB105_118.out _; (with_reducible repeat (first | refine blk_drewN ?_ _ | refine blk_drew ?_ | refine blk_alloc ?_ _)); refine blk_far ?_ NB105_118.out _; (with_reducible repeat (first | refine blk_drewN ?_ _ | refine blk_drew ?_ | refine blk_alloc ?_ _)); refine blk_far ?_ NB105_118.out _; (with_reducible repeat (first | refine blk_drewN ?_ _ | refine blk_drew ?_ | refine blk_alloc ?_ _)); exact BK105.out⟩, ⟨by (with_reducible repeat (first | refine blk_drewN ?_ _ | refine blk_drew ?_ | refine blk_alloc ?_ _)); refine blk_far ?_ NB108_116.out _; (with_reducible repeat (first | refine blk_drewN ?_ _ | refine blk_drew ?_ | refine blk_alloc ?_ _)); refine blk_far ?_ NB108_116.out _; (with_reducible repeat (first | refine blk_drewN ?_ _ | refine blk_drew ?_ | refine blk_alloc ?_ _)); refine blk_far ?_ NB108_118.out _; (with_reducible repeat (first | refine blk_drewN ?_ _ | refine blk_drew ?_ | refine blk_alloc ?_ _)); refine blk_far ?_ NB108_118.out _; (with_reducible repeat (first | refine blk_drewN ?_ _ | refine blk_drew ?_ | refine blk_alloc ?_ _)); refine blk_far ?_ NB108_118.out _; (with_reducible repeat (first | refine blk_drewN ?_ _ | refine blk_drew ?_ | refine blk_alloc ?_ _)); refine blk_far ?_ NB108_118.out _; (with_reducible repeat (first | refine blk_drewN ?_ _ | refine blk_drew ?_ | refine blk_alloc ?_ _)); exact BK108.out⟩, ⟨by (with_reducible repeat (first | refine blk_drewN ?_ _ | refine blk_drew ?_ | refine blk_alloc ?_ _)); refine blk_put (cs := #[.bool (decide (((rd_T50 l0 x16_1).f0) ≥ 19)), .bool false, .int .i64 x117002_3, .int .i64 x117003_3]) ?_ 2 _ rfl; (with_reducible repeat (first | refine blk_drewN ?_ _ | refine blk_drew ?_ | refine blk_alloc ?_ _)); refine blk_put (cs := #[.bool (decide (((rd_T50 l0 x16_1).f0) ≥ 19)), .bool false, .int .i64 x117002_3, .int .i64 x117003_3]) ?_ 1 _ rfl; (with_reducible repeat (first | refine blk_drewN ?_ _ | refine blk_drew ?_ | refine blk_alloc ?_ _)); refine blk_far ?_ NB116_118.out _; (with_reducible repeat (first | refine blk_drewN ?_ _ | refine blk_drew ?_ | refine blk_alloc ?_ _)); refine blk_far ?_ NB116_118.out _; (with_reducible repeat (first | refine blk_drewN ?_ _ | refine blk_drew ?_ | refine blk_alloc ?_ _)); refine blk_far ?_ NB116_118.out _; (with_reducible repeat (first | refine blk_drewN ?_ _ | refine blk_drew ?_ | refine blk_alloc ?_ _)); refine blk_far ?_ NB116_118.out _; (with_reducible repeat (first | refine blk_drewN ?_ _ | refine blk_drew ?_ | refine blk_alloc ?_ _)); exact BK116.out⟩, ⟨by repeat (first | (with_reducible first | exact HB.out | apply below_alloc | apply pw_below_drewN | apply below_drew1 | refine below_set ?_ GE105.out | refine below_set ?_ GE108.out | refine below_set ?_ GE116.out | refine below_set ?_ GE118.out) | exact HB.out)⟩⟩
                                · rw [if_neg c37] at H
                                  exact absurd H (by simp)
                              · rw [if_neg c36] at H
                                exact absurd H (by simp)
          · rw [if_neg c5] at H
            exact absurd H (by simp)
        · rw [if_neg c4] at H
          exact absurd H (by simp)
end Go.Proofs.Ytgemencaeocmmaa.PTerm
