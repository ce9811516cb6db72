/- Texts of this work merged into one file, what the law does not need left out: RefPut3. Conditions stand in each law. -/
import Derived.Deep.RegionWith
import Derived.Test.YtaogoabnidbbpaaGreatDoorSt9
import Derived.Test.YtaogoabnidbbpaaGreatDoorSt28
namespace Go.Proofs.YtaogoabnidbbpaaGreatDoor.PText
open Go.RowKit Go.Proofs.YtaogoabnidbbpaaGreatDoorW.PrintWords Go.Proofs.YtaogoabnidbbpaaGreatDoorW.PrintLast Go.Proofs.YtaogoabnidbbpaaGreatDoorW.PrintMore Go.Proofs.YtaogoabnidbbpaaGreatDoorW.Aid
set_option linter.unusedVariables false
set_option linter.unusedSimpArgs false
attribute [local go_sem] max2_int
theorem rejoinderref03_IsPath.calls (a0 : Int) (w : World) :
  Calls Tryz.prog 73 #[.int .u8 a0] w fun e w' => e = .returned (.bool (decide (19 ≤ a0))) ∧ Drawn0 w w' := by
 go_enter Tryz.func73, Tryz.ntmps73
 go_wp2
 go_ret
 exact ⟨rfl, by repeat (first | exact Drawn0.refl _ | apply Drawn0.step)⟩
theorem below_cell3 {w0 W : World} {p : Addr} {v : Value} (h : w0.cell? p = some v) (hb : Below w0.heap.size w0 W) : W.cell? p = some v := (hb.cell (World.block_lt_of_cell? w0 _ h)).trans h
theorem blk_new_p {W : World} {o : Obj} {g : Nat} (h : g = W.heap.size) : (W.alloc o).heap[g]? = some o := h ▸ blk_new W o
/-- The part. -/
def putR (o at_ : Int) (a : List Rp) : Rp := ⟨decide (19 ≤ o), Trm.plainB o && a.all (fun x => x.f1), a.foldl (fun d x => max d (x.f2 + 1)) 1, (a.head?.map fun x => x.f3).getD at_⟩
def rejoinderref03_put.f (o p : Int) (a : List Rp) (at_ : Int) : Option (Bool × Bool × Int × Int) :=
 if a.length ≤ 1000 ∧ a.all (fun x => decide (1 ≤ x.f2) && decide (x.f2 ≤ 1000)) = true then some ((putR o at_ a).f0, (putR o at_ a).f1, (putR o at_ a).f2, (putR o at_ a).f3) else none
theorem plain_same (o : Int) : rejoinderref03_plain.f o = some (Trm.plainB o) := by
 unfold rejoinderref03_plain.f Trm.plainB
 by_cases h : o = 0 ∨ o = 1 ∨ o = 2 ∨ o = 6 ∨ o = 11 ∨ o = 12 ∨ o = 13 ∨ o = 14
 ·rw [if_pos h, decide_eq_true h]
 ·rw [if_neg h, decide_eq_false h]
set_option maxHeartbeats 200000000 in
set_option maxRecDepth 100000 in
theorem rejoinderref03_put.calls (o p : Int) (A1 : Option Addr) (c1 : Nat) (l1 : List Rp) (a2 : Int) (r1 r2 : Bool) (r3 r4 : Int) (w : World) (hr1 : Kd.C k86 w A1 l1.length l1) (hc1 : l1.length ≤ c1) (h : rejoinderref03_put.f o p l1 a2 = some (r1, r2, r3, r4)) :
  Calls Tryz.prog 58 #[.agg #[.int .u8 o, .int .u8 p], .slice A1 l1.length c1, .int .i64 a2] w fun e w' => e = .returned (.agg #[.bool r1, .bool r2, .int .i64 r3, .int .i64 r4]) ∧ Below w.heap.size w w' := by
 unfold rejoinderref03_put.f at h
 split at h
 rotate_left
 ·cases h
 rename_i hc
 have e := Option.some.inj h
 have HE := Aside0.mk (show r1 = decide (19 ≤ o) ∧ r2 = (Trm.plainB o && l1.all fun x => x.f1) ∧ r3 = l1.foldl (fun d x => max d (x.f2 + 1)) 1 ∧ r4 = (l1.head?.map fun x => x.f3).getD a2 by
  injection e with e1 e; injection e with e2 e; injection e with e3 e4; exact ⟨e1.symm, e2.symm, e3.symm, e4.symm⟩)
 have HR := Aside0.mk hr1
 have HL := Aside0.mk hc
 have HP := Aside0.mk (fun W => rejoinderref03_IsPath.calls o W)
 have HQ := Aside0.mk (fun W => rejoinderref03_plain.calls o _ W (plain_same o))
 have HB := Aside0.mk (Below.refl w.heap.size w)
 clear h e hr1 hc hc1
 go_enter Tryz.func58, Tryz.ntmps58
 go_wp2_with fail
 obtain ⟨W0, hW0⟩ : ∃ W0, W0 = (w.alloc (.cells #[.int .u8 o, .int .u8 p] 41)).alloc (.cells #[.bool false, .bool false, .int .i64 0, .int .i64 0] 86) := ⟨_, rfl⟩
 rw [← hW0]
 have hsz : W0.heap.size = w.heap.size + 2 := by rw [hW0]; simp
 have K5 : W0.heap[w.heap.size]? = some (.cells #[.int .u8 o, .int .u8 p] 41 (0, 0)) := by rw [hW0]; exact blk_alloc (blk_new w _) _
 have BK6 : Aside0 (W0.heap[w.heap.size + 1]? = some (.cells #[.bool false, .bool false, .int .i64 0, .int .i64 0] 86 (0, 0))) := ⟨by rw [hW0]; exact blk_new_p (by simp)⟩
 have HB0 : Aside0 (Below w.heap.size w W0) := ⟨by rw [hW0]; exact below_alloc (below_alloc HB.out _) _⟩
 have k0 : W0.cell? ⟨w.heap.size, 0, none⟩ = some (.int .u8 o) := (blk_cell K5 0).trans rfl
 have KN := World.new_ne W0 ⟨w.heap.size, 0, none⟩ k0
 clear hW0 HB K5
 go_cut [7] (fun v7 wc => v7 = .pointer (some ⟨w.heap.size + 2, 0, none⟩) ∧ Aside0 (wc.heap[w.heap.size + 2]? = some (.cells #[.bool (decide (19 ≤ o)), .bool (Trm.plainB o), .int .i64 1, .int .i64 a2] 86 (0, 0))) ∧ Aside0 (wc.heap[w.heap.size + 1]? = some (.cells #[.bool false, .bool false, .int .i64 0, .int .i64 0] 86 (0, 0))) ∧ Aside0 (Below w.heap.size w wc))
 case first =>
  go_region_held3 (fun w' => w'.cell? ⟨w.heap.size, 0, none⟩ = some (.int .u8 o)) (first | assumption | go_keep) ((first | (go_at_call 73; with_reducible refine (HP.out _).mono ?_; rintro e w' ⟨rfl, ⟨nd, rfl⟩⟩) | (go_at_call 74; with_reducible refine (HQ.out _).mono ?_; rintro e w' ⟨rfl, ⟨nd, rfl⟩⟩)))
  all_goals (go_wp2_with fail; go_meet)
  all_goals (case rel =>
   refine ⟨rfl, ⟨?_⟩, ⟨by with_reducible repeat (first | exact BK6.out | refine blk_far ?_ (by simp) _ | refine blk_alloc ?_ _ | refine blk_drewN ?_ _)⟩, ⟨by with_reducible repeat (first | exact HB0.out | apply below_alloc | apply pw_below_drewN | refine below_set ?_ (by simp))⟩⟩
   first
   | (with_reducible refine blk_new_p ?_; simpa using hsz.symm; done)
   | exact blk_put (cs := #[.bool (decide (19 ≤ o)), .bool (Trm.plainB o), .int .i64 1, .int .i64 0]) (blk_put (cs := #[.bool (decide (19 ≤ o)), .bool (Trm.plainB o), .int .i64 0, .int .i64 0]) (blk_put (cs := #[.bool (decide (19 ≤ o)), .bool false, .int .i64 0, .int .i64 0]) (blk_put (cs := #[.bool false, .bool false, .int .i64 0, .int .i64 0]) (by (with_reducible repeat (first | refine blk_drewN ?_ _ | refine blk_drew ?_)); exact blk_new_p (by simpa using hsz.symm)) 0 _ rfl) 1 _ rfl) 2 _ rfl) 3 _ rfl)
 case rest =>
  obtain ⟨rfl, BK7, BK6, HB⟩ := hcut
  go_wp2
  go_loopg [8] l1.length (fun kq v8 w' => ∃ (j : Nat) (pl : Bool) (dp : Int), v8 = .int .i64 (j : Int) ∧ Aside0 (j + kq = l1.length) ∧ Aside0 (w'.heap[w.heap.size + 2]? = some (.cells #[.bool (decide (19 ≤ o)), .bool pl, .int .i64 dp, .int .i64 a2] 86 (0, 0))) ∧ Aside0 (w'.heap[w.heap.size + 1]? = some (.cells #[.bool false, .bool false, .int .i64 0, .int .i64 0] 86 (0, 0)))
   ∧ Aside0 ((pl && (l1.drop j).all fun x => x.f1) = r2) ∧ Aside0 ((l1.drop j).foldl (fun d x => max d (x.f2 + 1)) dp = r3) ∧ Aside0 (1 ≤ dp ∧ dp ≤ 1001) ∧ Aside0 (Below w.heap.size w w'))
  case atStart => exact ⟨0, _, _, rfl, ⟨by omega⟩, BK7, BK6, ⟨HE.out.2.1.symm⟩, ⟨HE.out.2.2.1.symm⟩, ⟨by omega⟩, HB⟩
  case round =>
   clear BK7 BK6 HB
   obtain ⟨j, pl, dp, rfl, hj, BK7, BK6, hpl, hdp, hb, HB⟩ := hrel
   have d1 := (blk_cell BK7.out 1).trans (show _ = some (Value.bool pl) from rfl)
   have d2 := (blk_cell BK7.out 2).trans (show _ = some (Value.int .i64 dp) from rfl)
   have d3 := (blk_cell BK7.out 3).trans (show _ = some (Value.int .i64 a2) from rfl)
   have z1 := blk_frozen BK7.out 1
   have z2 := blk_frozen BK7.out 2
   have z3 := blk_frozen BK7.out 3
   cases gk with
   | zero =>
    have hjl : j = l1.length := by have := hj.out; omega
    subst hjl
    have c1 : decide ((l1.length : Int) < (l1.length : Int)) = false := decide_eq_false (by omega)
    have c2 : decide (l1.length < l1.length) = false := decide_eq_false (by omega)
    have d0 := (blk_cell BK7.out 0).trans (show _ = some (Value.bool (decide (19 ≤ o))) from rfl)
    have y0 := (blk_cell BK6.out 0).trans (show _ = some (Value.bool false) from rfl)
    have y1 := (blk_cell BK6.out 1).trans (show _ = some (Value.bool false) from rfl)
    have y2 := (blk_cell BK6.out 2).trans (show _ = some (Value.int .i64 0) from rfl)
    have y3 := (blk_cell BK6.out 3).trans (show _ = some (Value.int .i64 0) from rfl)
    have x0 := blk_frozen BK6.out 0
    have x1 := blk_frozen BK6.out 1
    have x2 := blk_frozen BK6.out 2
    have x3 := blk_frozen BK6.out 3
    rw [List.drop_length] at hpl hdp
    have hpl1 : pl = r2 := by have := hpl.out; simpa using this
    have hdp1 : dp = r3 := hdp.out
    subst hpl1
    subst hdp1
    rcases Nat.eq_zero_or_pos l1.length with h0 | h0
    ·have c3 : decide (0 < l1.length) = false := decide_eq_false (by omega)
     have c4 : decide ((0 : Int) < (l1.length : Int)) = false := decide_eq_false (by omega)
     have hr4 : r4 = a2 := by rw [HE.out.2.2.2, List.eq_nil_of_length_eq_zero h0]; rfl
     subst hr4
     clear h0 hj hpl hdp hb
     go_wp2_with fail
     rw [HE.out.1]
     refine bodyPost_ret (results_cell_row rfl _ _ (w.heap.size + 1) 86 #[.bool (decide (19 ≤ o)), .bool pl, .int .i64 dp, .int .i64 r4] (0, 0) _ rfl (blk_put (blk_put (blk_put (blk_put BK6.out 0 _ rfl) 1 _ rfl) 2 _ rfl) 3 _ rfl) Tryz.underlying86 rfl (by kernel_rfl)) rfl ?_
     exact ⟨rfl, below_set (below_set (below_set (below_set HB.out (by simp)) (by simp)) (by simp)) (by simp)⟩
    ·have c3 : decide (0 < l1.length) = true := decide_eq_true h0
     have c4 : decide ((0 : Int) < (l1.length : Int)) = true := decide_eq_true (by omega)
     have c5 := eq_true h0
     have c6 := eq_true (show (0 : Int) < (l1.length : Int) by omega)
     obtain ⟨ad, e1, h1, h2, h3, h4⟩ := at_T86 HR.out 0 (by omega) (by omega)
     subst e1
     rw [show (0 : Int).toNat * 4 = 0 from rfl, Addr.add_zero'] at h4
     have hlo : ad.block < w.heap.size := by have h7 := World.block_lt_of_cell? w _ h4; exact h7
     have hr4 : (rd_T86 l1 0).f3 = r4 := by
      rw [HE.out.2.2.2]
      cases l1 with
      | nil => exact absurd h0 (by simp)
      | cons x t => rfl
     rw [hr4] at h4
     replace h4 := below_cell3 h4 HB.out
     have n1 : ad.block ≠ w.heap.size + 2 := by omega
     have n2 : ad.block ≠ w.heap.size + 1 := by omega
     clear h0 hj hpl hdp hb h1 h2 h3 hlo hr4
     go_wp2_with fail
     rw [HE.out.1]
     refine bodyPost_ret (results_cell_row rfl _ _ (w.heap.size + 1) 86 #[.bool (decide (19 ≤ o)), .bool pl, .int .i64 dp, .int .i64 r4] (0, 0) _ rfl (blk_put (blk_put (blk_put (blk_put (blk_far BK6.out (by simp) _) 0 _ rfl) 1 _ rfl) 2 _ rfl) 3 _ rfl) Tryz.underlying86 rfl (by kernel_rfl)) rfl ?_
     exact ⟨rfl, below_set (below_set (below_set (below_set (below_set HB.out (by simp)) (by simp)) (by simp)) (by simp)) (by simp)⟩
   | succ k1 =>
    have hjl : j < l1.length := by have := hj.out; omega
    obtain ⟨ad, e1, h0, h1, h2, h3⟩ := at_T86 HR.out (j : Int) (by omega) (by omega)
    subst e1
    have hx : rd_T86 l1 (j : Int) = l1[j] := by unfold rd_T86; rw [Int.toNat_natCast, List.getD_eq_getElem?_getD, List.getElem?_eq_getElem hjl]; rfl
    rw [Int.toNat_natCast, hx] at h1 h2
    clear h0 h3 hx
    have hlo : (ad.add (j * 4)).block < w.heap.size := by have h7 := World.block_lt_of_cell? w _ h1; exact h7
    replace h1 := below_cell3 h1 HB.out
    replace h2 := below_cell3 h2 HB.out
    have hpl0 := hpl.out
    have hdp0 := hdp.out
    rw [List.drop_eq_getElem_cons hjl, List.all_cons] at hpl0
    rw [List.drop_eq_getElem_cons hjl, List.foldl_cons] at hdp0
    have hr := List.all_eq_true.1 HL.out.2 l1[j] (List.getElem_mem hjl)
    simp only [Bool.and_eq_true, decide_eq_true_eq] at hr
    obtain ⟨x, hx⟩ : ∃ x, x = l1[j] := ⟨_, rfl⟩
    rw [← hx] at h1 h2 hpl0 hdp0 hr
    have c1 : decide ((j : Int) < (l1.length : Int)) = true := decide_eq_true (by omega)
    have c2 : decide (j < l1.length) = true := decide_eq_true hjl
    have p1 := eq_true (show (0 : Int) ≤ (j : Int) by omega)
    have p2 := eq_true hjl
    have n1 : (ad.add (j * 4)).block ≠ w.heap.size + 2 := by omega
    have n2 : w.heap.size + 2 ≠ (ad.add (j * 4)).block := by omega
    have hw : Aside0 (wrap64 ((j : Int) + 1) = ((j + 1 : Nat) : Int)) := ⟨by have := HL.out.1; unfold wrap64; omega⟩
    have hw2 : IntKind.i64.wrap (x.f2 + 1) = x.f2 + 1 := by rw [i64_w]; unfold wrap64; omega
    have hj1 : Aside0 (j + 1 + k1 = l1.length) := ⟨by have := hj.out; omega⟩
    have HPL := Aside0.mk hpl0
    have HDP := Aside0.mk hdp0
    have HX := Aside0.mk hr
    clear hpl0 hdp0 hr hx hjl hlo hpl hdp hj
    cases pl
    all_goals
     go_wp2_with fail
     go_region
     all_goals go_wp2_with fail
     all_goals (go_roundg k1; (case measure => exact Nat.lt_succ_self _); (case rel => first | exact ⟨j + 1, x.f1, dp, by first | rfl | (show Value.int .i64 (wrap64 _) = _; rw [hw.out]), hj1, ⟨by (with_reducible repeat (first | refine blk_drew ?_ | refine blk_drewN ?_ _)); exact blk_put (blk_put BK7.out 1 _ rfl) 2 _ rfl⟩, ⟨by with_reducible repeat (first | exact BK6.out | refine blk_far ?_ (by simp) _ | refine blk_drew ?_ | refine blk_drewN ?_ _)⟩, ⟨by have h := HPL.out; simpa using h⟩, ⟨by have h := HDP.out; rw [show max dp (x.f2 + 1) = dp by omega] at h; exact h⟩, ⟨by have := HX.out; have := hb.out; omega⟩, ⟨by with_reducible repeat (first | exact HB.out | apply pw_below_drewN | apply below_drew1 | refine below_set ?_ (by simp))⟩⟩ | exact ⟨j + 1, x.f1, (x.f2 + 1), by first | rfl | (show Value.int .i64 (wrap64 _) = _; rw [hw.out]), hj1, ⟨by (with_reducible repeat (first | refine blk_drew ?_ | refine blk_drewN ?_ _)); exact blk_put (blk_put BK7.out 1 _ rfl) 2 _ rfl⟩, ⟨by with_reducible repeat (first | exact BK6.out | refine blk_far ?_ (by simp) _ | refine blk_drew ?_ | refine blk_drewN ?_ _)⟩, ⟨by have h := HPL.out; simpa using h⟩, ⟨by have h := HDP.out; rw [show max dp (x.f2 + 1) = (x.f2 + 1) by omega] at h; exact h⟩, ⟨by have := HX.out; have := hb.out; omega⟩, ⟨by with_reducible repeat (first | exact HB.out | apply pw_below_drewN | apply below_drew1 | refine below_set ?_ (by simp))⟩⟩ | exact ⟨j + 1, false, dp, by first | rfl | (show Value.int .i64 (wrap64 _) = _; rw [hw.out]), hj1, ⟨by (with_reducible repeat (first | refine blk_drew ?_ | refine blk_drewN ?_ _)); exact blk_put (blk_put BK7.out 1 _ rfl) 2 _ rfl⟩, ⟨by with_reducible repeat (first | exact BK6.out | refine blk_far ?_ (by simp) _ | refine blk_drew ?_ | refine blk_drewN ?_ _)⟩, ⟨by have h := HPL.out; simpa using h⟩, ⟨by have h := HDP.out; rw [show max dp (x.f2 + 1) = dp by omega] at h; exact h⟩, ⟨by have := HX.out; have := hb.out; omega⟩, ⟨by with_reducible repeat (first | exact HB.out | apply pw_below_drewN | apply below_drew1 | refine below_set ?_ (by simp))⟩⟩ | exact ⟨j + 1, false, (x.f2 + 1), by first | rfl | (show Value.int .i64 (wrap64 _) = _; rw [hw.out]), hj1, ⟨by (with_reducible repeat (first | refine blk_drew ?_ | refine blk_drewN ?_ _)); exact blk_put (blk_put BK7.out 1 _ rfl) 2 _ rfl⟩, ⟨by with_reducible repeat (first | exact BK6.out | refine blk_far ?_ (by simp) _ | refine blk_drew ?_ | refine blk_drewN ?_ _)⟩, ⟨by have h := HPL.out; simpa using h⟩, ⟨by have h := HDP.out; rw [show max dp (x.f2 + 1) = (x.f2 + 1) by omega] at h; exact h⟩, ⟨by have := HX.out; have := hb.out; omega⟩, ⟨by with_reducible repeat (first | exact HB.out | apply pw_below_drewN | apply below_drew1 | refine below_set ?_ (by simp))⟩⟩))
end Go.Proofs.YtaogoabnidbbpaaGreatDoor.PText
