/- Texts of this work merged into one file, what the law does not need left out: TellsLaw. Conditions stand in each law. -/
import Derived.Test.YtaogoabnidbbpaaGreatDoorSt45
import Derived.Test.YtaogoabnidbbpaaGreatDoorSt46
namespace Go.Proofs.YtaogoabnidbbpaaGreatDoor.PText
open Go.RowKit Go.Proofs.YtaogoabnidbbpaaGreatDoorW.PrintWords Go.Proofs.YtaogoabnidbbpaaGreatDoorW.PrintLast Go.Proofs.YtaogoabnidbbpaaGreatDoorW.PrintMore Go.Proofs.YtaogoabnidbbpaaGreatDoorW.Aid
set_option linter.unusedVariables false
set_option linter.unusedSimpArgs false
def TellsPost (w : World) (e : Ending) (w' : World) : Prop := e = .returned (.bool true) ∧ Below w.heap.size w w'
theorem lent_C {W : World} {g : Nat} {l : List Tk} (hl : l.length ≤ 600) (h : W.heap[g]? = some (.cells (tokC (lentT l 3)).toArray 41 (0, 0))) : Kd.C k41 W (some ⟨g, 0, none⟩) l.length l := by
 have h1 := Kd.C_take (tokC_C h (by rw [lentT_len]; omega)) (m := l.length) (by rw [lentT_len]; omega)
 rw [lentT_take] at h1
 exact h1
theorem empty_R {W : World} {g b : Nat} (hb : b ≤ g) (h : W.heap[g]? = some (.cells #[] 9 (0, 0))) : Kd.R Kd.string 9 W b (fun _ => True) (.slice (some ⟨g, 0, none⟩) 0 0) [] :=
 ⟨fun _ _ => trivial, [], ⟨rfl, .inr ⟨g, 0, #[], rfl, hb, h, Nat.le_refl _, by decide, rfl, rfl⟩⟩, Reps.none _ _⟩
section
variable {ops : Array Oper} {o : Oper} {act : Act} {Q : Exit → Act → World → Prop} {rest : List Oper}
theorem names_rows {w' : World} {v : Value} {ys : List ByteArray} {A : Option Addr} {m c b : Nat} (hgd : o.guard = none) (s x : Operand) (ho : o.op = .call { callee := .builtin .append, args := #[s, x], argTypes := #[22, 22] }) (hs : act.eval s = v) (hx : act.eval x = .slice A m c)
  (H : Kd.R Kd.string 9 w' b (fun _ => True) v []) (hy : Kd.C Kd.string w' A m ys) (hb : b ≤ w'.heap.size) (hl : m ≤ 1000000) (k : ∀ v1 w1, Kd.R Kd.string 9 w1 b (fun _ => True) v1 ys → Below b w' w1 → wpList Tryz.prog ops Q rest (act.put o.dst v1) w1) : wpList Tryz.prog ops Q (o :: rest) act w' :=
 Kd.R_append_rows Kd.string (w0 := w') b hgd s x 22 9 (.string ⟨#[]⟩) 16 ho Tryz.underlying22 info9 rfl (by decide) (by omega) v [] ys A m c (fun _ => True) (fun _ => False) hs hx H hy (fun x cs h => h) (fun _ hk => hk.elim) (fun _ _ => trivial) (Below.refl _ _) hb (by simp; omega) (fun v1 w1 hr hb1 hg hat => k v1 w1 (by simpa using hr) hb1)
end
set_option maxHeartbeats 16000000 in
set_option maxRecDepth 100000 in
theorem tells_a (A0 : Option Addr) (c0 : Nat) (names : List ByteArray) (A1 : Option Addr) (c1 : Nat) (l : List Tk) (s : ByteArray) (w : World) (h : l.length > 600) : Calls Tryz.prog 3 #[.slice A0 names.length c0, .slice A1 l.length c1, .string s] w (TellsPost w) := by
 have d1 : decide (600 < l.length) = true := decide_eq_true (by omega)
 have d1i : decide ((600 : Int) < (l.length : Int)) = true := decide_eq_true (by omega)
 clear h
 go_enter Tryz.func3, Tryz.ntmps3
 go_wp2
 go_ret
 exact ⟨rfl, by repeat (first | exact Below.refl _ _ | apply below_alloc | apply pw_below_drewN | apply below_drew1)⟩
set_option maxHeartbeats 16000000 in
set_option maxRecDepth 100000 in
theorem tells_b (A0 : Option Addr) (c0 : Nat) (names : List ByteArray) (A1 : Option Addr) (c1 : Nat) (l : List Tk) (s : ByteArray) (w : World) (h0 : l.length ≤ 600) (h : names.length > 12) : Calls Tryz.prog 3 #[.slice A0 names.length c0, .slice A1 l.length c1, .string s] w (TellsPost w) := by
 have d1 : decide (600 < l.length) = false := decide_eq_false (by omega)
 have d1i : decide ((600 : Int) < (l.length : Int)) = false := decide_eq_false (by omega)
 have d2 : decide (12 < names.length) = true := decide_eq_true (by omega)
 have d2i : decide ((12 : Int) < (names.length : Int)) = true := decide_eq_true (by omega)
 clear h0 h
 go_enter Tryz.func3, Tryz.ntmps3
 go_wp2
 go_ret
 exact ⟨rfl, by repeat (first | exact Below.refl _ _ | apply below_alloc | apply pw_below_drewN | apply below_drew1)⟩
set_option maxHeartbeats 16000000 in
set_option maxRecDepth 100000 in
theorem tells_c (A0 : Option Addr) (c0 : Nat) (names : List ByteArray) (A1 : Option Addr) (c1 : Nat) (l : List Tk) (s : ByteArray) (w : World) (h0 : l.length ≤ 600) (h1 : names.length ≤ 12) (h : s.size > 600) (h2 : s.size ≤ 4096) : Calls Tryz.prog 3 #[.slice A0 names.length c0, .slice A1 l.length c1, .string s] w (TellsPost w) := by
 have d1 : decide (600 < l.length) = false := decide_eq_false (by omega)
 have d1i : decide ((600 : Int) < (l.length : Int)) = false := decide_eq_false (by omega)
 have d2 : decide (12 < names.length) = false := decide_eq_false (by omega)
 have d2i : decide ((12 : Int) < (names.length : Int)) = false := decide_eq_false (by omega)
 have d3 : decide (600 < s.size) = true := decide_eq_true (by omega)
 have d3i : decide ((600 : Int) < (s.size : Int)) = true := decide_eq_true (by omega)
 have d4 : decide (s.size ≤ 4096) = true := decide_eq_true (by omega)
 have d4i : decide ((s.size : Int) ≤ (4096 : Int)) = true := decide_eq_true (by omega)
 clear h0 h1 h h2
 go_enter Tryz.func3, Tryz.ntmps3
 go_wp2
 go_ret
 exact ⟨rfl, by repeat (first | exact Below.refl _ _ | apply below_alloc | apply pw_below_drewN | apply below_drew1)⟩
set_option maxHeartbeats 16000000 in
set_option maxRecDepth 100000 in
theorem tells_d (A0 : Option Addr) (c0 : Nat) (names : List ByteArray) (A1 : Option Addr) (c1 : Nat) (l : List Tk) (s : ByteArray) (w : World) (h0 : l.length ≤ 600) (h1 : names.length ≤ 12) (h : s.size > 4105) : Calls Tryz.prog 3 #[.slice A0 names.length c0, .slice A1 l.length c1, .string s] w (TellsPost w) := by
 have d1 : decide (600 < l.length) = false := decide_eq_false (by omega)
 have d1i : decide ((600 : Int) < (l.length : Int)) = false := decide_eq_false (by omega)
 have d2 : decide (12 < names.length) = false := decide_eq_false (by omega)
 have d2i : decide ((12 : Int) < (names.length : Int)) = false := decide_eq_false (by omega)
 have d3 : decide (600 < s.size) = true := decide_eq_true (by omega)
 have d3i : decide ((600 : Int) < (s.size : Int)) = true := decide_eq_true (by omega)
 have d4 : decide (s.size ≤ 4096) = false := decide_eq_false (by omega)
 have d4i : decide ((s.size : Int) ≤ (4096 : Int)) = false := decide_eq_false (by omega)
 have d5 : decide (4105 < s.size) = true := decide_eq_true (by omega)
 have d5i : decide ((4105 : Int) < (s.size : Int)) = true := decide_eq_true (by omega)
 clear h0 h1 h
 go_enter Tryz.func3, Tryz.ntmps3
 go_wp2
 go_ret
 exact ⟨rfl, by repeat (first | exact Below.refl _ _ | apply below_alloc | apply pw_below_drewN | apply below_drew1)⟩
set_option maxHeartbeats 16000000 in
set_option maxRecDepth 100000 in
theorem tells_main (A0 : Option Addr) (c0 : Nat) (names : List ByteArray) (A1 : Option Addr) (c1 : Nat) (l : List Tk) (s : ByteArray) (w : World) (hr0 : Kd.C Kd.string w A0 names.length names) (hc0 : names.length ≤ c0) (hr1 : Kd.C k41 w A1 l.length l) (hc1 : l.length ≤ c1) (hok : ∀ t ∈ l, okT t = true) (HT : Aside0 (Laid w)) (h0 : l.length ≤ 600) (h1 : names.length ≤ 12) (h : s.size ≤ 600 ∨ (4096 < s.size ∧ s.size ≤ 4105)) : Calls Tryz.prog 3 #[.slice A0 names.length c0, .slice A1 l.length c1, .string s] w (TellsPost w) := by
 obtain ⟨s1, e1, hS1⟩ : ∃ s1 e1, showF names l false = (s1, e1) := ⟨_, _, rfl⟩
 obtain ⟨s2, e2, hS2⟩ : ∃ s2 e2, showF names l true = (s2, e2) := ⟨_, _, rfl⟩
 obtain ⟨s3, e3, a3, hS3⟩ : ∃ s3 e3 a3, tidyF names s.data.toList = (s3, e3, a3) := ⟨_, _, _, rfl⟩
 obtain ⟨k1, hk1⟩ := (formulaS_ev names l hok).rounds
 obtain ⟨k2, hk2⟩ := (pathS_ev names l hok).rounds
 obtain ⟨k3, hk3⟩ := (texts_ev names (by omega)).rounds
 have hf := formulaR_now names l hok
 have hp := pathR_now names l hok
 have ht := tidyR_now names s (by omega)
 rw [hS1] at hk1 hf
 rw [hS2] at hk2 hp
 rw [hS3] at ht
 have HC := Aside0.mk (And.intro (And.intro hr0 hc0) (And.intro hr1 hc1))
 have HN := Aside0.mk (And.intro h0 h1)
 have F1 := Aside0.mk (fun W Ai ci Al cl (h : Kd.C Kd.string W Ai names.length names) (hc : names.length ≤ ci) (h' : Kd.C k41 W Al l.length l) (hc' : l.length ≤ cl) => show_Formula.calls k1 Ai ci names Al cl l s1 e1 W h hc h' hc' hk1)
 have F2 := Aside0.mk (fun W (hb : Below w.heap.size w W) => rejoinderref06_Formula.calls A0 c0 names A1 c1 l s1 e1 W (Kd.C_below hr0 hb) hc0 (Kd.C_below hr1 hb) hc1 hf)
 have F3 := Aside0.mk (fun W Ai ci Al cl (h : Kd.C Kd.string W Ai names.length names) (hc : names.length ≤ ci) (h' : Kd.C k41 W Al l.length l) (hc' : l.length ≤ cl) => show_Path.calls k2 Ai ci names Al cl l s2 e2 W h hc h' hc' hk2)
 have F4 := Aside0.mk (fun W (hb : Below w.heap.size w W) => rejoinderref06_Path.calls A0 c0 names A1 c1 l s2 e2 W (Kd.C_below hr0 hb) hc0 (Kd.C_below hr1 hb) hc1 hp)
 have F5 := Aside0.mk (fun W Ai ci (hb : Below w.heap.size w W) (h : Kd.C Kd.string W Ai names.length names) (hc : names.length ≤ ci) => tidy_calls Ai ci names s W h hc (by omega) ⟨Laid.later HT.out hb⟩)
 rw [hS3] at F5
 have F6 := Aside0.mk (fun W (hb : Below w.heap.size w W) => rejoinderref06_Tidy.calls A0 c0 names s s3 e3 a3 W (Kd.C_below hr0 hb) hc0 ht)
 have F7 := Aside0.mk (fun W Ai ci (hb : Below w.heap.size w W) (h : Kd.C Kd.string W Ai names.length names) (hc : names.length ≤ ci) => rejoinderkit_SameTexts.calls k3 Ai ci names A0 c0 names true W h hc (Kd.C_below hr0 hb) hc0 hk3)
 have F8 := Aside0.mk (fun W (hb : Below w.heap.size w W) => lent_calls A1 c1 l W (Kd.C_below hr1 hb) h0)
 have F9 := Aside0.mk (fun W g (hb : Below w.heap.size w W) hg => kept_calls A1 c1 g l W (Kd.C_below hr1 hb) h0 hg)
 have d1 : decide (600 < l.length) = false := decide_eq_false (by omega)
 have d1i : decide ((600 : Int) < (l.length : Int)) = false := decide_eq_false (by omega)
 have d2 : decide (12 < names.length) = false := decide_eq_false (by omega)
 have d2i : decide ((12 : Int) < (names.length : Int)) = false := decide_eq_false (by omega)
 have d5 : decide (4105 < s.size) = false := decide_eq_false (by omega)
 have d5i : decide ((4105 : Int) < (s.size : Int)) = false := decide_eq_false (by omega)
 have hd : (decide (600 < s.size) && decide (s.size ≤ 4096)) = false := by rcases h with h | h; rw [decide_eq_false (show ¬ 600 < s.size by omega)]; rfl; rw [decide_eq_false (show ¬ s.size ≤ 4096 by omega), Bool.and_false]
 clear hS1 hS2 hS3 hk1 hk2 hk3 hf hp ht hr0 hc0 hr1 hc1 hok h0 h1
 rcases h with h | h
 all_goals
  first
  | (have d3 : decide (600 < s.size) = false := decide_eq_false (by omega); have d3i : decide ((600 : Int) < (s.size : Int)) = false := decide_eq_false (by omega))
  | (have d3 : decide (600 < s.size) = true := decide_eq_true (by omega); have d3i : decide ((600 : Int) < (s.size : Int)) = true := decide_eq_true (by omega); have d4 : decide (s.size ≤ 4096) = false := decide_eq_false (by omega); have d4i : decide ((s.size : Int) ≤ (4096 : Int)) = false := decide_eq_false (by omega))
  clear h
  go_enter Tryz.func3, Tryz.ntmps3
  go_wp2_with (first | (go_at_call 4; refine (F8.out _ ?hb).mono ?_; (case hb => (repeat (first | exact HBI.out | apply below_alloc | apply pw_below_drewN | apply below_drew1))); rintro e wA ⟨g, rfl, hle, hg, hq⟩; have CI := Aside0.mk (Kd.C_below RI.out.2.2 hq); have BG := Aside0.mk hg; have HBA := Aside0.mk (below_step HBI.out hq); have CL := Aside0.mk (lent_C HN.out.1 hg); clear hq hg hle F8) | ((with_reducible refine gate_builtin (b := .append) (xs := #[.tmp 45, .tmp 46]) rfl ?_); at_builtin; refine names_rows (b := w.heap.size) rfl (.tmp 45) (.tmp 46) rfl rfl rfl (empty_R (Nat.le_refl _) (blk_new w _)) (Kd.C_alloc HC.out.1.1 _) (by simp) (by have := HN.out.2; omega) ?_; intro v1 wI hR hb; obtain ⟨Ai, ci, rfl⟩ := Kd.R_slice hR; have RI := Aside0.mk (Kd.R_reads' hR); have HBI := Aside0.mk ((below_alloc (Below.refl w.heap.size w) (.cells #[] 9)).trans hb); clear hR hb) | (go_at_call 5; refine (F1.out _ _ _ _ _ (Kd.C_below CI.out ?hb) RI.out.2.1 (Kd.C_below CL.out ?hb) (by omega)).mono ?_; (case hb => (repeat (first  | exact Below.refl _ _ | apply below_alloc | apply pw_below_drewN | apply below_drew1))); rintro e w1 ⟨rfl, hq⟩; have HQ1 : Aside0 (Below wA.heap.size wA w1) := ⟨below_step (by (repeat (first  | exact Below.refl _ _ | apply below_alloc | apply pw_below_drewN | apply below_drew1))) hq⟩; clear hq F1) | (go_at_call 6; refine (F2.out _ (below_step HBA.out ?hb)).mono ?_; (case hb => (repeat (first | exact HQ1.out | exact Below.refl _ _ | apply below_alloc | apply pw_below_drewN | apply below_drew1))); rintro e w2 ⟨rfl, hq⟩; have HQ2 : Aside0 (Below wA.heap.size wA w2) := ⟨below_step (by (repeat (first | exact HQ1.out | exact Below.refl _ _ | apply below_alloc | apply pw_below_drewN | apply below_drew1))) hq⟩; clear hq F2) | (go_at_call 7; refine (F3.out _ _ _ _ _ (Kd.C_below CI.out ?hb) RI.out.2.1 (Kd.C_below CL.out ?hb) (by omega)).mono ?_; (case hb => (repeat (first | exact HQ2.out | exact HQ1.out | exact Below.refl _ _ | apply below_alloc | apply pw_below_drewN | apply below_drew1))); rintro e w3 ⟨rfl, hq⟩; have HQ3 : Aside0 (Below wA.heap.size wA w3) := ⟨below_step (by (repeat (first | exact HQ2.out | exact HQ1.out | exact Below.refl _ _ | apply below_alloc | apply pw_below_drewN | apply below_drew1))) hq⟩; clear hq F3) | (go_at_call 8; refine (F4.out _ (below_step HBA.out ?hb)).mono ?_; (case hb => (repeat (first | exact HQ3.out | exact HQ2.out | exact HQ1.out | exact Below.refl _ _ | apply below_alloc | apply pw_below_drewN | apply below_drew1))); rintro e w4 ⟨rfl, hq⟩; have HQ4 : Aside0 (Below wA.heap.size wA w4) := ⟨below_step (by (repeat (first | exact HQ3.out | exact HQ2.out | exact HQ1.out | exact Below.refl _ _ | apply below_alloc | apply pw_below_drewN | apply below_drew1))) hq⟩; clear hq F4) | (go_at_call 9; refine (F5.out _ _ _ (below_step HBA.out ?hb) (Kd.C_below CI.out ?hb) RI.out.2.1).mono ?_; (case hb => (repeat (first | exact HQ4.out | exact HQ3.out | exact HQ2.out | exact HQ1.out | exact Below.refl _ _ | apply below_alloc | apply pw_below_drewN | apply below_drew1))); rintro e w5 ⟨rfl, hq⟩; have HQ5 : Aside0 (Below wA.heap.size wA w5) := ⟨below_step (by (repeat (first | exact HQ4.out | exact HQ3.out | exact HQ2.out | exact HQ1.out | exact Below.refl _ _ | apply below_alloc | apply pw_below_drewN | apply below_drew1))) hq⟩; clear hq F5) | (go_at_call 10; refine (F6.out _ (below_step HBA.out ?hb)).mono ?_; (case hb => (repeat (first | exact HQ5.out | exact HQ4.out | exact HQ3.out | exact HQ2.out | exact HQ1.out | exact Below.refl _ _ | apply below_alloc | apply pw_below_drewN | apply below_drew1))); rintro e w6 ⟨rfl, hq⟩; have BF := kept_block hq (blk_new w5 (.cells #[.int .i64 e3, .int .i64 a3] 31)); have q0 : w6.cell? ⟨w5.heap.size, 0, none⟩ = some (.int .i64 e3) := (blk_cell BF 0).trans rfl; have q1 : w6.cell? ⟨w5.heap.size, 1, none⟩ = some (.int .i64 a3) := (blk_cell BF 1).trans rfl; have HQ6 : Aside0 (Below wA.heap.size wA w6) := ⟨below_step (by (repeat (first | exact HQ5.out | exact HQ4.out | exact HQ3.out | exact HQ2.out | exact HQ1.out | exact Below.refl _ _ | apply below_alloc | apply pw_below_drewN | apply below_drew1))) hq⟩; clear hq F6 BF) | (go_at_call 11; refine (F7.out _ _ _ (below_step HBA.out ?hb) (Kd.C_below CI.out ?hb) RI.out.2.1).mono ?_; (case hb => (repeat (first | exact HQ6.out | exact HQ5.out | exact HQ4.out | exact HQ3.out | exact HQ2.out | exact HQ1.out | exact Below.refl _ _ | apply below_alloc | apply pw_below_drewN | apply below_drew1))); rintro e w7 ⟨rfl, hd⟩; have HQ7 : Aside0 (Below wA.heap.size wA w7) := ⟨below_step (by (repeat (first | exact HQ6.out | exact HQ5.out | exact HQ4.out | exact HQ3.out | exact HQ2.out | exact HQ1.out | exact Below.refl _ _ | apply below_alloc | apply pw_below_drewN | apply below_drew1))) hd.below⟩; clear hd F7) | (go_at_call 12; refine (F9.out _ g (below_step HBA.out ?hb) (kept_block ?hb BG.out)).mono ?_; (case hb => (repeat (first | exact HQ7.out | exact HQ6.out | exact HQ5.out | exact HQ4.out | exact HQ3.out | exact HQ2.out | exact HQ1.out | exact Below.refl _ _ | apply below_alloc | apply pw_below_drewN | apply below_drew1))); rintro e w8 ⟨rfl, hq⟩; have HQ8 : Aside0 (Below wA.heap.size wA w8) := ⟨below_step (by (repeat (first | exact HQ7.out | exact HQ6.out | exact HQ5.out | exact HQ4.out | exact HQ3.out | exact HQ2.out | exact HQ1.out | exact Below.refl _ _ | apply below_alloc | apply pw_below_drewN | apply below_drew1))) hq⟩; clear hq F9))
  go_ret
  exact ⟨rfl, below_step HBA.out HQ8.out⟩
/-- ShowTells, whatever it is handed. -/
theorem tells_calls (A0 : Option Addr) (c0 : Nat) (names : List ByteArray) (A1 : Option Addr) (c1 : Nat) (l : List Tk) (s : ByteArray) (w : World) (hr0 : Kd.C Kd.string w A0 names.length names) (hc0 : names.length ≤ c0) (hr1 : Kd.C k41 w A1 l.length l) (hc1 : l.length ≤ c1) (hok : ∀ t ∈ l, okT t = true) (HT : Aside0 (Laid w)) : Calls Tryz.prog 3 #[.slice A0 names.length c0, .slice A1 l.length c1, .string s] w (TellsPost w) := by
 by_cases h0 : l.length > 600
 ·exact tells_a A0 c0 names A1 c1 l s w h0
 by_cases h1 : names.length > 12
 ·exact tells_b A0 c0 names A1 c1 l s w (by omega) h1
 by_cases h2 : s.size > 4105
 ·exact tells_d A0 c0 names A1 c1 l s w (by omega) (by omega) h2
 by_cases h3 : s.size > 600 ∧ s.size ≤ 4096
 ·exact tells_c A0 c0 names A1 c1 l s w (by omega) (by omega) h3.1 h3.2
 exact tells_main A0 c0 names A1 c1 l s w hr0 hc0 hr1 hc1 hok HT (by omega) (by omega) (by omega)
theorem u8_wf {n : Int} (h : (Lit.int .u8 n).wf = true) : 0 ≤ n ∧ n < 256 := by
 have e1 : IntKind.u8.min = 0 := by decide
 have e2 : IntKind.u8.max = 255 := by decide
 simp [Lit.wf, e1, e2] at h
 omega
theorem okT_wf {t : Tk} (h0 : (Lit.int .u8 t.f0).wf = true) (h1 : (Lit.int .u8 t.f1).wf = true) : okT t = true := by
 have a := u8_wf h0
 have b := u8_wf h1
 unfold okT
 simp only [Bool.and_eq_true, decide_eq_true_eq]
 omega
end Go.Proofs.YtaogoabnidbbpaaGreatDoor.PText
