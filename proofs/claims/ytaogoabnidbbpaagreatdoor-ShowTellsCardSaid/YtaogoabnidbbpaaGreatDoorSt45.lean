/- Texts of this work merged into one file, what the law does not need left out: TellsTidy. Conditions stand in each law. -/
import Derived.Test.YtaogoabnidbbpaaGreatDoorSt39
import Derived.Test.YtaogoabnidbbpaaGreatDoorSt44
namespace Go.Proofs.YtaogoabnidbbpaaGreatDoor.PText
open Go.RowKit Go.Proofs.YtaogoabnidbbpaaGreatDoorW.PrintWords Go.Proofs.YtaogoabnidbbpaaGreatDoorW.PrintLast Go.Proofs.YtaogoabnidbbpaaGreatDoorW.PrintMore Go.Proofs.YtaogoabnidbbpaaGreatDoorW.Aid
set_option linter.unusedVariables false
set_option linter.unusedSimpArgs false
theorem eqFault (d : Nat) (w : World) (x0 y0 : Int) (x1 y1 : Int) :
  (Op.equalIn (d + 2) 31 (.agg #[.int .i64 x0, .int .i64 x1]) (.agg #[.int .i64 y0, .int .i64 y1])).run Tryz.prog w = .ok (x0 == y0 && (x1 == y1)) w := by
 refine eqA_of Tryz.underlying31 (by kernel_rfl) ?_
 refine eqf_cons (by rfl) (by go_simp; rfl) (by go_simp; rfl) (by go_simp) ?_
 exact eqf_last (by rfl) (by go_simp; rfl) (by go_simp; rfl) (by go_simp)
attribute [local go_sem high] eqFault
theorem readL_at {names : List ByteArray} {s : Bs} {path : Bool} (h : (readL names s path).2.1 = 0) : (readL names s path).2.2 = 0 := by
 unfold readL at h ⊢
 split
 ·rename_i h0
  rw [if_pos h0] at h
  split
  ·rename_i h1
   rw [if_pos h1] at h
   unfold readW at h ⊢
   cases hr : run names s.length (roundsFor (wordsL s).1) (ntOf path) ⟨(wordsL s).1, []⟩ with
   | none => rfl
   | some e =>
    rw [hr] at h
    cases e with
    | stop a b => exact absurd h (stop_err names _ _ _ _ _ _ hr)
    | go r =>
     have h2 : (endL path (match r.ws with | [] => some (End.go r) | _ :: _ => some (r.fail s.length 150))).2.1 = 0 := h
     show (endL path (match r.ws with | [] => some (End.go r) | _ :: _ => some (r.fail s.length 150))).2.2 = 0
     cases hws : r.ws with
     | nil =>
      rw [hws] at h2
      have h3 : (if chkT r.out path = 0 then (r.out, 0, 0) else ([], chkT r.out path, -1) : List Tk × Int × Int).2.1 = 0 := h2
      show (if chkT r.out path = 0 then (r.out, 0, 0) else ([], chkT r.out path, -1) : List Tk × Int × Int).2.2 = 0
      split
      ·rfl
      ·rename_i h4
       rw [if_neg h4] at h3
       exact absurd h3 h4
     | cons a b => rw [hws] at h2; have h4 : (150 : Int) = 0 := h2; omega
  ·rename_i h1
   rw [if_neg h1] at h
   exact words_at s h
 ·rename_i h0
  rw [if_neg h0] at h
  exact absurd h h0
def TidyPost (w : World) (r : ByteArray × Int × Int) (e : Ending) (w' : World) : Prop := e = .returned (.tuple #[.string r.1, .agg #[.int .i64 r.2.1, .int .i64 r.2.2]]) ∧ Below w.heap.size w w'
set_option maxHeartbeats 16000000 in
set_option maxRecDepth 100000 in
theorem tidy_calls (A0 : Option Addr) (c0 : Nat) (l0 : List ByteArray) (a1 : ByteArray) (w : World) (hr0 : Kd.C Kd.string w A0 l0.length l0) (hc0 : l0.length ≤ c0) (hn : l0.length ≤ 200) (HT : Aside0 (Laid w)) :
  Calls Tryz.prog 9 #[.slice A0 l0.length c0, .string a1] w (TidyPost w (tidyF l0 a1.data.toList)) := by
 obtain ⟨l, e, a, hL⟩ : ∃ l e a, readL l0 a1.data.toList false = (l, e, a) := ⟨_, _, _, rfl⟩
 have hlk : ∀ t ∈ l, okT t = true := by have h := readL_okT l0 a1.data.toList false hn; rw [hL] at h; exact h
 have hat : e = 0 → a = 0 := fun h => by have h2 := readL_at (names := l0) (s := a1.data.toList) (path := false) (by rw [hL]; exact h); rw [hL] at h2; exact h2
 have HP : Aside0 (parse_Formula.f l0 a1 = some (l, e, a)) := ⟨congrArg some hL⟩
 have HR := Aside0.mk (And.intro hr0 hc0)
 have HW := Aside0.mk (fun W (hb : Below w.heap.size w W) => parse_Formula.calls A0 c0 l0 a1 l e a W (Kd.C_below hr0 hb) hc0 HP.out ⟨Laid.later HT.out hb⟩)
 unfold tidyF
 rw [hL]
 clear hr0 hc0
 by_cases he : e = 0
 ·obtain rfl := hat he
  subst he
  rw [if_pos rfl]
  obtain ⟨s, f, hS⟩ : ∃ s f, showF l0 l false = (s, f) := ⟨_, _, rfl⟩
  obtain ⟨k, hk⟩ := (formulaS_ev l0 l hlk).rounds
  rw [hS] at hk
  have HF := Aside0.mk (fun W A c (hb : Below w.heap.size w W) (h : Kd.C k41 W A l.length l) (hc : l.length ≤ c) => show_Formula.calls k A0 c0 l0 A c l s f W (Kd.C_below HR.out.1 hb) HR.out.2 h hc hk)
  simp only [hS]
  clear hS hk hlk hat hL HP
  by_cases hf : f = 0
  ·subst hf
   rw [if_pos rfl]
   go_enter Tryz.func9, Tryz.ntmps9
   go_wp2_with (first | (go_at_call 21; refine (HW.out _ ?hb).mono ?_; (case hb => repeat (first | exact Below.refl _ _ | apply below_alloc | apply pw_below_drewN | apply below_drew1)); rintro e1 w1 ⟨v, rfl, hR, hq⟩; obtain ⟨A, c, rfl⟩ := Kd.R_slice hR; have RR := Aside0.mk (Kd.R_reads' hR); have BK := kept_block hq (blk_new w (.cells #[.int .i64 0, .int .i64 0] 31)); have HB := Aside0.mk (below_step (below_alloc (Below.refl w.heap.size w) (.cells #[.int .i64 0, .int .i64 0] 31)) hq); have q0 : w1.cell? ⟨w.heap.size, 0, none⟩ = some (.int .i64 0) := (blk_cell BK 0).trans rfl; have q1 : w1.cell? ⟨w.heap.size, 1, none⟩ = some (.int .i64 0) := (blk_cell BK 1).trans rfl; have f0 := blk_frozen BK 0; have f1 := blk_frozen BK 1; have q3 : w.heap.size ≠ w1.heap.size := Nat.ne_of_lt (blk_lt BK); have q5 := blk_lt BK; have nq0 := World.new_ne w1 _ q0; have nq1 := World.new_ne w1 _ q1; have BK := Aside0.mk BK; clear hR hq) | (go_at_call 5; refine (HF.out _ A c ?hb ?hc RR.out.2.1).mono ?_; (case hb => repeat (first | exact HB.out | apply below_alloc | apply pw_below_drewN | apply below_drew1)); (case hc => ((with_reducible repeat (first | refine Kd.C_alloc ?_ _ | refine Kd.C_drew ?_ | refine Kd.C_drewN ?_ _)); exact RR.out.2.2)); rintro e2 w2 ⟨rfl, hq⟩; have BK2 := kept_block hq (blk_alloc BK.out (.cells #[.int .i64 0, .int .i64 0] 31)); have HB2 := Aside0.mk (below_step (below_alloc HB.out (.cells #[.int .i64 0, .int .i64 0] 31)) hq); clear BK HB q0 q1 f0 f1 q3 q5 nq0 nq1 hq; have BK := BK2; have HB := HB2; clear BK2 HB2; have q0 : w2.cell? ⟨w.heap.size, 0, none⟩ = some (.int .i64 0) := (blk_cell BK 0).trans rfl; have q1 : w2.cell? ⟨w.heap.size, 1, none⟩ = some (.int .i64 0) := (blk_cell BK 1).trans rfl; have f0 := blk_frozen BK 0; have f1 := blk_frozen BK 1; have q3 : w.heap.size ≠ w2.heap.size := Nat.ne_of_lt (blk_lt BK); have q5 := blk_lt BK; have nq0 := World.new_ne w2 _ q0; have nq1 := World.new_ne w2 _ q1; have BK := Aside0.mk BK))
   refine bodyPost_ret (results_tc rfl _ _ w.heap.size 31 #[.int .i64 0, .int .i64 0] (0, 0) _ rfl (by (with_reducible repeat (first | refine blk_drew ?_ | refine blk_drewN ?_ _ | refine blk_alloc ?_ _)); exact blk_put (blk_put BK.out 0 _ rfl) 1 _ rfl) Tryz.underlying31 rfl (by kernel_rfl)) rfl ?_
   exact ⟨rfl, by repeat (first | exact HB.out | apply below_alloc | apply pw_below_drewN | apply below_drew1 | refine below_set ?_ (Nat.le_refl _))⟩
  ·rw [if_neg hf]
   have c1 : (f == 0) = false := beq_eq_false_iff_ne.2 hf
   have c2 : (f != 0) = true := bne_iff_ne.2 hf
   clear hf
   go_enter Tryz.func9, Tryz.ntmps9
   go_wp2_with (first | (go_at_call 21; refine (HW.out _ ?hb).mono ?_; (case hb => repeat (first | exact Below.refl _ _ | apply below_alloc | apply pw_below_drewN | apply below_drew1)); rintro e1 w1 ⟨v, rfl, hR, hq⟩; obtain ⟨A, c, rfl⟩ := Kd.R_slice hR; have RR := Aside0.mk (Kd.R_reads' hR); have BK := kept_block hq (blk_new w (.cells #[.int .i64 0, .int .i64 0] 31)); have HB := Aside0.mk (below_step (below_alloc (Below.refl w.heap.size w) (.cells #[.int .i64 0, .int .i64 0] 31)) hq); have q0 : w1.cell? ⟨w.heap.size, 0, none⟩ = some (.int .i64 0) := (blk_cell BK 0).trans rfl; have q1 : w1.cell? ⟨w.heap.size, 1, none⟩ = some (.int .i64 0) := (blk_cell BK 1).trans rfl; have f0 := blk_frozen BK 0; have f1 := blk_frozen BK 1; have q3 : w.heap.size ≠ w1.heap.size := Nat.ne_of_lt (blk_lt BK); have q5 := blk_lt BK; have nq0 := World.new_ne w1 _ q0; have nq1 := World.new_ne w1 _ q1; have BK := Aside0.mk BK; clear hR hq) | (go_at_call 5; refine (HF.out _ A c ?hb ?hc RR.out.2.1).mono ?_; (case hb => repeat (first | exact HB.out | apply below_alloc | apply pw_below_drewN | apply below_drew1)); (case hc => ((with_reducible repeat (first | refine Kd.C_alloc ?_ _ | refine Kd.C_drew ?_ | refine Kd.C_drewN ?_ _)); exact RR.out.2.2)); rintro e2 w2 ⟨rfl, hq⟩; have BK2 := kept_block hq (blk_alloc BK.out (.cells #[.int .i64 0, .int .i64 0] 31)); have HB2 := Aside0.mk (below_step (below_alloc HB.out (.cells #[.int .i64 0, .int .i64 0] 31)) hq); clear BK HB q0 q1 f0 f1 q3 q5 nq0 nq1 hq; have BK := BK2; have HB := HB2; clear BK2 HB2; have q0 : w2.cell? ⟨w.heap.size, 0, none⟩ = some (.int .i64 0) := (blk_cell BK 0).trans rfl; have q1 : w2.cell? ⟨w.heap.size, 1, none⟩ = some (.int .i64 0) := (blk_cell BK 1).trans rfl; have f0 := blk_frozen BK 0; have f1 := blk_frozen BK 1; have q3 : w.heap.size ≠ w2.heap.size := Nat.ne_of_lt (blk_lt BK); have q5 := blk_lt BK; have nq0 := World.new_ne w2 _ q0; have nq1 := World.new_ne w2 _ q1; have BK := Aside0.mk BK))
   refine bodyPost_ret (results_tc rfl _ _ w.heap.size 31 #[.int .i64 f, .int .i64 (-1)] (0, 0) _ rfl (by (with_reducible repeat (first | refine blk_drew ?_ | refine blk_drewN ?_ _ | refine blk_alloc ?_ _)); exact blk_put (blk_put BK.out 0 _ rfl) 1 _ rfl) Tryz.underlying31 rfl (by kernel_rfl)) rfl ?_
   exact ⟨rfl, by repeat (first | exact HB.out | apply below_alloc | apply pw_below_drewN | apply below_drew1 | refine below_set ?_ (Nat.le_refl _))⟩
 ·rw [if_neg he]
  have c1 : (e == 0) = false := beq_eq_false_iff_ne.2 he
  clear hlk hat hL HP he
  go_enter Tryz.func9, Tryz.ntmps9
  go_wp2_with (go_at_call 21; refine (HW.out _ ?hb).mono ?_; (case hb => repeat (first | exact Below.refl _ _ | apply below_alloc | apply pw_below_drewN | apply below_drew1)); rintro e1 w1 ⟨v, rfl, hR, hq⟩; have BK := kept_block hq (blk_new w (.cells #[.int .i64 0, .int .i64 0] 31)); have HB := Aside0.mk (below_step (below_alloc (Below.refl w.heap.size w) (.cells #[.int .i64 0, .int .i64 0] 31)) hq); have q0 : w1.cell? ⟨w.heap.size, 0, none⟩ = some (.int .i64 0) := (blk_cell BK 0).trans rfl; have q1 : w1.cell? ⟨w.heap.size, 1, none⟩ = some (.int .i64 0) := (blk_cell BK 1).trans rfl; have f0 := blk_frozen BK 0; have f1 := blk_frozen BK 1; have q3 : w.heap.size ≠ w1.heap.size := Nat.ne_of_lt (blk_lt BK); have q5 := blk_lt BK; have nq0 := World.new_ne w1 _ q0; have nq1 := World.new_ne w1 _ q1; have BK := Aside0.mk BK; clear hR hq)
  go_region
  all_goals go_wp2_with fail
  all_goals refine bodyPost_ret (results_tc rfl _ _ w.heap.size 31 #[.int .i64 e, .int .i64 a] (0, 0) _ rfl (by (with_reducible repeat (first | refine blk_drew ?_ | refine blk_drewN ?_ _ | refine blk_alloc ?_ _)); exact blk_put (blk_put BK.out 0 _ rfl) 1 _ rfl) Tryz.underlying31 rfl (by kernel_rfl)) rfl ?_
  all_goals exact ⟨rfl, by repeat (first | exact HB.out | apply below_alloc | apply pw_below_drewN | apply below_drew1 | refine below_set ?_ (Nat.le_refl _))⟩
end Go.Proofs.YtaogoabnidbbpaaGreatDoor.PText
