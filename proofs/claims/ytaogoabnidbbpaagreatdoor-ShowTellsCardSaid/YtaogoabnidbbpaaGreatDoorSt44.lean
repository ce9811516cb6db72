/- Texts of this work merged into one file, what the law does not need left out: TextRead; TextReadRun; TextReadAll; PTextF. Conditions stand in each law. -/
import Derived.Test.YtaogoabnidbbpaaGreatDoorSt26
import Derived.Test.YtaogoabnidbbpaaGreatDoorSt43
namespace Go.Proofs.YtaogoabnidbbpaaGreatDoor.PText
open Go.RowKit Go.Proofs.YtaogoabnidbbpaaGreatDoorW.PrintWords Go.Proofs.YtaogoabnidbbpaaGreatDoorW.PrintLast Go.Proofs.YtaogoabnidbbpaaGreatDoorW.PrintMore Go.Proofs.YtaogoabnidbbpaaGreatDoorW.Aid
set_option linter.unusedVariables false
set_option linter.unusedSimpArgs false
/-- The two variables of the results, in a world: what they hold. -/
def Cells (w0 : World) (a b c : Value) (W : World) : Prop := W.heap[w0.heap.size]? = some (.cells #[a] 23 (0, 0)) ∧ W.heap[w0.heap.size + 1]? = some (.cells #[b, c] 31 (0, 0)) ∧ Below w0.heap.size w0 W
theorem Cells.below {w0 W W2 : World} {a b c : Value} (h : Cells w0 a b c W) (hb : Below W.heap.size W W2) : Cells w0 a b c W2 := ⟨blk_below h.1 hb, blk_below h.2.1 hb, below_step h.2.2 hb⟩
theorem Cells.start (w0 : World) (a b c : Value) : Cells w0 a b c ((w0.alloc (.cells #[a] 23 (0, 0))).alloc (.cells #[b, c] 31 (0, 0))) := ⟨blk_alloc (blk_new _ _) _, blk_new1 _ _ _, below_alloc (below_alloc (Below.refl _ _) _) _⟩
theorem Cells.put0 {w0 W : World} {a b c : Value} (h : Cells w0 a b c W) (u : Value) : Cells w0 u b c (W.setCell ⟨w0.heap.size, 0, none⟩ u) := ⟨blk_put h.1 0 u rfl, blk_far h.2.1 (by show _ ≠ w0.heap.size; omega) u, below_set h.2.2 (Nat.le_refl _)⟩
theorem Cells.put1 {w0 W : World} {a b c : Value} (h : Cells w0 a b c W) (u : Value) : Cells w0 a u c (W.setCell ⟨w0.heap.size + 1, 0, none⟩ u) := ⟨blk_far h.1 (by show _ ≠ w0.heap.size + 1; omega) u, blk_put h.2.1 0 u rfl, below_set h.2.2 (Nat.le_succ _)⟩
theorem Cells.put2 {w0 W : World} {a b c : Value} (h : Cells w0 a b c W) (u : Value) : Cells w0 a b u (W.setCell ⟨w0.heap.size + 1, 1, none⟩ u) := ⟨blk_far h.1 (by show _ ≠ w0.heap.size + 1; omega) u, blk_put h.2.1 1 u rfl, below_set h.2.2 (Nat.le_succ _)⟩
theorem Cells.drew {w0 W : World} {a b c : Value} (h : Cells w0 a b c W) : Cells w0 a b c W.drew := ⟨blk_drew h.1, blk_drew h.2.1, below_drew1 h.2.2⟩
set_option maxRecDepth 100000 in
theorem read_results {w W : World} {a b c : Value} (h : Cells w a b c W) (tmps : Array Value) (h6 : (tmps[6]?).getD undef = .pointer (some ⟨w.heap.size, 0, none⟩)) (h7 : (tmps[7]?).getD undef = .pointer (some ⟨w.heap.size + 1, 0, none⟩)) :
  (results Tryz.f35 tmps).run Tryz.prog W = .ok (.tuple #[a, .agg #[b, c]]) W := by
 have p0 : W.cell? ⟨w.heap.size, 0, none⟩ = some a := (blk_cell h.1 0).trans rfl
 have q0 : W.cell? ⟨w.heap.size + 1, 0, none⟩ = some b := (blk_cell h.2.1 0).trans rfl
 have q1 : W.cell? ⟨w.heap.size + 1, 1, none⟩ = some c := (blk_cell h.2.1 1).trans rfl
 simp [results, Tryz.results35, go_sem, h6, h7, p0, q0, q1]
set_option maxHeartbeats 8000000 in
set_option maxRecDepth 100000 in
theorem read_names (A : Option Addr) (c : Nat) (names : List ByteArray) (s : ByteArray) (path : Bool) (w : World) (hr : Kd.C Kd.string w A names.length names) (hc : names.length ≤ c) (h0 : chk names ≠ 0) :
  Calls Tryz.prog 35 #[.slice A names.length c, .string s, .bool path] w fun e w' => e = .returned (.tuple #[.slice none 0 0, .agg #[.int .i64 (chk names), .int .i64 (-1)]]) ∧ Below w.heap.size w w' := by
 have HR := Aside0.mk hr
 have c1 : (chk names == 0) = false := beq_eq_false_iff_ne.2 h0
 have c2 : (chk names != 0) = true := bne_iff_ne.2 h0
 clear hr hc h0
 go_enter_defers Tryz.func35, Tryz.ntmps35
 go_wp2_with fail
 refine (check_calls A c names _ (Kd.C_alloc (Kd.C_alloc HR.out _) _)).mono ?_
 rintro e w3 ⟨rfl, hb⟩
 have HC := Aside0.mk ((Cells.start w _ _ _).below hb)
 clear hb HR
 have p0 : w3.cell? ⟨w.heap.size, 0, none⟩ = some (.slice none 0 0) := (blk_cell HC.out.1 0).trans rfl
 have q0 : w3.cell? ⟨w.heap.size + 1, 0, none⟩ = some (.int .i64 0) := (blk_cell HC.out.2.1 0).trans rfl
 have q1 : w3.cell? ⟨w.heap.size + 1, 1, none⟩ = some (.int .i64 0) := (blk_cell HC.out.2.1 1).trans rfl
 have fp := blk_frozen HC.out.1 0
 have fq := blk_frozen HC.out.2.1 0
 have fq1 := blk_frozen HC.out.2.1 1
 go_wp2
 have hC := (((HC.out.put0 (.slice none 0 0)).put1 (.int .i64 (chk names))).put2 (.int .i64 (-1)))
 exact ⟨_, read_results hC _ rfl rfl, rfl, hC.2.2⟩
set_option maxHeartbeats 8000000 in
set_option maxRecDepth 100000 in
theorem read_words1 (A : Option Addr) (c : Nat) (names : List ByteArray) (s : ByteArray) (path : Bool) (w : World) (hr : Kd.C Kd.string w A names.length names) (hc : names.length ≤ c) (h0 : chk names = 0) (k : Nat) (ws : List Wd) (er a : Int) (hk : lexis_Words.f k s = some (ws, er, a)) (hf : ¬ er = 0) (HT : Aside0 (Laid w)) :
  Calls Tryz.prog 35 #[.slice A names.length c, .string s, .bool path] w fun e w' => e = .returned (.tuple #[.slice none 0 0, .agg #[.int .i64 er, .int .i64 a]]) ∧ Below w.heap.size w w' := by
 have HR := Aside0.mk hr
 have HK := Aside0.mk hk
 have c1 : (chk names == 0) = true := beq_iff_eq.2 h0
 have c2 : (chk names != 0) = false := by simp [h0]
 have c3 := eq_false hf
 have c4 : decide (er = 0) = false := decide_eq_false hf
 have c5 : (er == 0) = false := beq_eq_false_iff_ne.2 hf
 clear hr hc h0 hk
 go_enter_defers Tryz.func35, Tryz.ntmps35
 go_wp2_with fail
 refine (check_calls A c names _ (Kd.C_alloc (Kd.C_alloc HR.out _) _)).mono ?_
 rintro e w3 ⟨rfl, hb⟩
 have HC := Aside0.mk ((Cells.start w _ _ _).below hb)
 clear hb HR
 go_wp2_with fail
 refine (lexis_Words.calls k s ws er a _ HK.out ⟨Laid.later HT.out HC.out.2.2⟩).mono ?_
 rintro e w4 ⟨vL, rfl, hr, hb⟩
 have HC4 := Aside0.mk (HC.out.below hb)
 clear hb hr HC
 have p0 : w4.cell? ⟨w.heap.size, 0, none⟩ = some (.slice none 0 0) := (blk_cell HC4.out.1 0).trans rfl
 have q0 : w4.cell? ⟨w.heap.size + 1, 0, none⟩ = some (.int .i64 0) := (blk_cell HC4.out.2.1 0).trans rfl
 have q1 : w4.cell? ⟨w.heap.size + 1, 1, none⟩ = some (.int .i64 0) := (blk_cell HC4.out.2.1 1).trans rfl
 have fp := blk_frozen HC4.out.1 0
 have fq := blk_frozen HC4.out.2.1 0
 have fq1 := blk_frozen HC4.out.2.1 1
 go_wp2
 go_region
 have hC := ((((HC4.out.put1 (.int .i64 er)).put2 (.int .i64 a)).put0 (.slice none 0 0)).put1 (.int .i64 er)).put2 (.int .i64 a)
 go_wp2
 exact ⟨_, read_results hC.drew _ rfl rfl, rfl, hC.drew.2.2⟩
set_option maxHeartbeats 8000000 in
set_option maxRecDepth 100000 in
theorem read_words2 (A : Option Addr) (c : Nat) (names : List ByteArray) (s : ByteArray) (path : Bool) (w : World) (hr : Kd.C Kd.string w A names.length names) (hc : names.length ≤ c) (h0 : chk names = 0) (k : Nat) (ws : List Wd) (a : Int) (hk : lexis_Words.f k s = some (ws, 0, a)) (hf : ¬ a = 0) (HT : Aside0 (Laid w)) :
  Calls Tryz.prog 35 #[.slice A names.length c, .string s, .bool path] w fun e w' => e = .returned (.tuple #[.slice none 0 0, .agg #[.int .i64 0, .int .i64 a]]) ∧ Below w.heap.size w w' := by
 have HR := Aside0.mk hr
 have HK := Aside0.mk hk
 have c1 : (chk names == 0) = true := beq_iff_eq.2 h0
 have c2 : (chk names != 0) = false := by simp [h0]
 have c3 := eq_false hf
 have c4 : decide (a = 0) = false := decide_eq_false hf
 have c5 : (a == 0) = false := beq_eq_false_iff_ne.2 hf
 clear hr hc h0 hk
 go_enter_defers Tryz.func35, Tryz.ntmps35
 go_wp2_with fail
 refine (check_calls A c names _ (Kd.C_alloc (Kd.C_alloc HR.out _) _)).mono ?_
 rintro e w3 ⟨rfl, hb⟩
 have HC := Aside0.mk ((Cells.start w _ _ _).below hb)
 clear hb HR
 go_wp2_with fail
 refine (lexis_Words.calls k s ws 0 a _ HK.out ⟨Laid.later HT.out HC.out.2.2⟩).mono ?_
 rintro e w4 ⟨vL, rfl, hr, hb⟩
 have HC4 := Aside0.mk (HC.out.below hb)
 clear hb hr HC
 have p0 : w4.cell? ⟨w.heap.size, 0, none⟩ = some (.slice none 0 0) := (blk_cell HC4.out.1 0).trans rfl
 have q0 : w4.cell? ⟨w.heap.size + 1, 0, none⟩ = some (.int .i64 0) := (blk_cell HC4.out.2.1 0).trans rfl
 have q1 : w4.cell? ⟨w.heap.size + 1, 1, none⟩ = some (.int .i64 0) := (blk_cell HC4.out.2.1 1).trans rfl
 have fp := blk_frozen HC4.out.1 0
 have fq := blk_frozen HC4.out.2.1 0
 have fq1 := blk_frozen HC4.out.2.1 1
 go_wp2
 go_region
 have hC := ((((HC4.out.put1 (.int .i64 0)).put2 (.int .i64 a)).put0 (.slice none 0 0)).put1 (.int .i64 0)).put2 (.int .i64 a)
 go_wp2
 exact ⟨_, read_results hC.drew _ rfl rfl, rfl, hC.drew.2.2⟩
/-- The reader as it is made. -/
theorem RdAt.start (w0 : World) (g : Nat) (hg : g = w0.heap.size) (nm : Option Addr) (nn cn : Nat) (last : Int) (A : Option Addr) (c : Nat) (ws : List Wd) (hC : Kd.C k114 w0 A ws.length ws) (hc : ws.length ≤ c) :
  RdAt w0 g nm nn cn last (w0.alloc (.cells #[.slice nm nn cn, .slice A ws.length c, .int .i64 last, .slice none 0 0] 96 (0, 0))) ⟨ws, []⟩ := by
 subst hg
 exact ⟨A, c, .slice none 0 0, blk_new _ _, Nat.le_refl _, hC, hc, Kd.R_nil _ _ _ _ _, below_alloc (Below.refl _ _) _⟩
/-- The words, behind the fault's store. -/
theorem words_kept {w w3 w4 : World} {v : Value} {ws : List Wd} (hr : Kd.R k114 114 w4 w3.heap.size (fun _ => True) v ws) (hlt : w.heap.size + 1 < w3.heap.size) (x y : Value) :
  Kd.R k114 114 ((w4.setCell ⟨w.heap.size + 1, 0, none⟩ x).setCell ⟨w.heap.size + 1, 1, none⟩ y) w3.heap.size (fun _ => True) v ws := by
 have h1 := Kd.R_bound hr
 have h2 := Kd.R_far (p := ⟨w.heap.size + 1, 0, none⟩) h1 (fun k hk => by show k ≠ w.heap.size + 1; have := hk.2.1; omega) x
 have h3 := Kd.R_far (p := ⟨w.heap.size + 1, 1, none⟩) h2 (fun k hk => by show k ≠ w.heap.size + 1; have := hk.2.1; omega) y
 exact Kd.R_mono h3 (fun _ _ => trivial)
/-- The tokens, behind the results' stores. -/
theorem toks_kept {w w5 W W2 : World} {v : Value} {l : List Tk} {ok : Nat → Prop} (hr : Kd.R k41 41 W w5.heap.size ok v l) (hlt : w.heap.size + 1 < w5.heap.size) (hb : Below W.heap.size W W2) (x y z : Value) :
  Kd.R k41 41 (((W2.setCell ⟨w.heap.size, 0, none⟩ x).setCell ⟨w.heap.size + 1, 0, none⟩ y).setCell ⟨w.heap.size + 1, 1, none⟩ z) w.heap.size (fun _ => True) v l := by
 have h1 := Kd.R_bound (Kd.R_below hr hb)
 have h2 := Kd.R_far (p := ⟨w.heap.size, 0, none⟩) h1 (fun k hk => by show k ≠ w.heap.size; have := hk.2.1; omega) x
 have h3 := Kd.R_far (p := ⟨w.heap.size + 1, 0, none⟩) h2 (fun k hk => by show k ≠ w.heap.size + 1; have := hk.2.1; omega) y
 have h4 := Kd.R_far (p := ⟨w.heap.size + 1, 1, none⟩) h3 (fun k hk => by show k ≠ w.heap.size + 1; have := hk.2.1; omega) z
 exact Kd.R_lower (Kd.R_mono h4 (fun _ _ => trivial)) (by omega)
set_option maxHeartbeats 8000000 in
set_option maxRecDepth 100000 in
theorem run_iff_thrown (A : Option Addr) (c : Nat) (names : List ByteArray) (s : ByteArray) (w : World) (hr : Kd.C Kd.string w A names.length names) (hc : names.length ≤ c) (h0 : chk names = 0) (hl8 : names.length ≤ 8) (k : Nat) (ws : List Wd) (hk : lexis_Words.f k s = some (ws, 0, 0)) (hws : ws.length ≤ 4096) (er at_ : Int) (he : run names s.size (roundsFor ws) (ntOf false) ⟨ws, []⟩ = some (.stop er at_)) (HT : Aside0 (Laid w)) :
  Calls Tryz.prog 35 #[.slice A names.length c, .string s, .bool false] w fun e w' => ∃ v0_ : Value, e = .returned (.tuple #[v0_, .agg #[.int .i64 er, .int .i64 at_]]) ∧ Kd.R k41 41 w' w.heap.size (fun _ => True) v0_ [] ∧ Below w.heap.size w w' := by
 have HR := Aside0.mk hr
 have HK := Aside0.mk hk
 have HCN := Aside0.mk hc
 have HL8 := Aside0.mk hl8
 have HWS := Aside0.mk hws
 have HE := Aside0.mk he
 have c1 : (chk names == 0) = true := beq_iff_eq.2 h0
 have c2 : (chk names != 0) = false := by simp [h0]
 have hmf : ∀ (fn : Fn) (first cap : Array Value) (w : World), (Instr.makeFunc fn first cap).run Tryz.prog w = .ok (.func fn first cap) w := fun _ _ _ _ => rfl
 clear hr hc h0 hk hl8 hws he
 go_enter_defers Tryz.func35, Tryz.ntmps35
 go_wp2_with fail
 refine (check_calls A c names _ (Kd.C_alloc (Kd.C_alloc HR.out _) _)).mono ?_
 rintro e w3 ⟨rfl, hb⟩
 have HC := Aside0.mk ((Cells.start w _ _ _).below hb)
 have hlt3 := Aside0.mk (blk_lt HC.out.2.1)
 clear hb
 go_wp2_with fail
 refine (lexis_Words.calls k s ws 0 0 _ HK.out ⟨Laid.later HT.out HC.out.2.2⟩).mono ?_
 rintro e w4 ⟨vL, rfl, hr, hb⟩
 have HC4 := Aside0.mk (HC.out.below hb)
 obtain ⟨Aw, cw, rfl⟩ := Kd.R_slice hr
 have HWR := Aside0.mk (words_kept hr hlt3.out (.int .i64 0) (.int .i64 0))
 have hlt4 := Aside0.mk (blk_lt HC4.out.2.1)
 clear hb hr HC
 have p0 : w4.cell? ⟨w.heap.size, 0, none⟩ = some (.slice none 0 0) := (blk_cell HC4.out.1 0).trans rfl
 have q0 : w4.cell? ⟨w.heap.size + 1, 0, none⟩ = some (.int .i64 0) := (blk_cell HC4.out.2.1 0).trans rfl
 have q1 : w4.cell? ⟨w.heap.size + 1, 1, none⟩ = some (.int .i64 0) := (blk_cell HC4.out.2.1 1).trans rfl
 have fp := blk_frozen HC4.out.1 0
 have fq := blk_frozen HC4.out.2.1 0
 have fq1 := blk_frozen HC4.out.2.1 1
 obtain ⟨w5, hw5⟩ : ∃ w5, w5 = (w4.setCell ⟨w.heap.size + 1, 0, none⟩ (.int .i64 0)).setCell ⟨w.heap.size + 1, 1, none⟩ (.int .i64 0) := ⟨_, rfl⟩
 have hs5 : Aside0 (w4.heap.size = w5.heap.size) := ⟨by rw [hw5]; simp⟩
 have HW5 := Aside0.mk hw5
 have HC5 : Aside0 (Cells w (.slice none 0 0) (.int .i64 0) (.int .i64 0) w5) := ⟨by rw [hw5]; exact (HC4.out.put1 (.int .i64 0)).put2 (.int .i64 0)⟩
 rw [← hw5] at HWR
 clear hw5
 have HST := Aside0.mk (RdAt.start w5 w4.heap.size hs5.out A names.length c (s.size : Int) Aw cw ws (Kd.R_reads' HWR.out).2.2 (Kd.R_reads' HWR.out).2.1)
 have HD := Aside0.mk (all_does names w5 w4.heap.size A c (s.size : Int) (Kd.C_below HR.out HC5.out.2.2) HCN.out HL8.out (roundsFor ws) (roundsFor ws) (Nat.le_refl _) .iff rfl ⟨ws, []⟩ _ HE.out (by show 0 + ws.length ≤ _; have := HWS.out; omega))
 clear HE HWR
 go_wp2_with fail
 rw [← HW5.out]
 refine (HD.out _ HST.out).mono ?_
 rintro e w6 ⟨rfl, hb⟩
 have HC6 := Aside0.mk (HC5.out.below hb)
 clear hb
 unfold thrown
 go_wp2
 refine leaves_cons (f := 46) (args := #[.pointer (some ⟨w.heap.size, 0, none⟩), .pointer (some ⟨w.heap.size + 1, 0, none⟩)]) (by simp) (by simp [go_sem]) ?_
 refine (catch_stop w.heap.size (w.heap.size + 1) er at_ _ _ _ w _ HC6.out.1 HC6.out.2.1 (by omega) (Nat.le_refl _) (Nat.le_succ _) HC6.out.2.2).mono ?_
 rintro e u' w'' ⟨rfl, rfl, h1, h2, h3⟩
 simp only [settle, List.dropWhile_nil]
 exact ⟨_, read_results ⟨h1, h2, h3⟩ _ rfl rfl, _, rfl, Kd.R_nil _ _ _ _ _, h3⟩
set_option maxHeartbeats 8000000 in
set_option maxRecDepth 100000 in
theorem run_iff_left (A : Option Addr) (c : Nat) (names : List ByteArray) (s : ByteArray) (w : World) (hr : Kd.C Kd.string w A names.length names) (hc : names.length ≤ c) (h0 : chk names = 0) (hl8 : names.length ≤ 8) (k : Nat) (ws : List Wd) (hk : lexis_Words.f k s = some (ws, 0, 0)) (hws : ws.length ≤ 4096) (r : Rd) (he : run names s.size (roundsFor ws) (ntOf false) ⟨ws, []⟩ = some (.go r)) (hw : r.ws ≠ []) (HT : Aside0 (Laid w)) :
  Calls Tryz.prog 35 #[.slice A names.length c, .string s, .bool false] w fun e w' => ∃ v0_ : Value, e = .returned (.tuple #[v0_, .agg #[.int .i64 150, .int .i64 (r.place s.size)]]) ∧ Kd.R k41 41 w' w.heap.size (fun _ => True) v0_ [] ∧ Below w.heap.size w w' := by
 have HR := Aside0.mk hr
 have HK := Aside0.mk hk
 have HCN := Aside0.mk hc
 have HL8 := Aside0.mk hl8
 have HWS := Aside0.mk hws
 have HE := Aside0.mk he
 have c1 : (chk names == 0) = true := beq_iff_eq.2 h0
 have c2 : (chk names != 0) = false := by simp [h0]
 have hmf : ∀ (fn : Fn) (first cap : Array Value) (w : World), (Instr.makeFunc fn first cap).run Tryz.prog w = .ok (.func fn first cap) w := fun _ _ _ _ => rfl
 have hwl : 0 < r.ws.length := List.length_pos_iff.2 hw
 have t1 : decide ((0 : Int) < (r.ws.length : Int)) = true := decide_eq_true (by omega)
 have t2 := eq_true (show (0 : Int) < (r.ws.length : Int) by omega)
 have t3 := eq_true hwl
 have t4 := decide_eq_true hwl
 clear hw hwl
 clear hr hc h0 hk hl8 hws he
 go_enter_defers Tryz.func35, Tryz.ntmps35
 go_wp2_with fail
 refine (check_calls A c names _ (Kd.C_alloc (Kd.C_alloc HR.out _) _)).mono ?_
 rintro e w3 ⟨rfl, hb⟩
 have HC := Aside0.mk ((Cells.start w _ _ _).below hb)
 have hlt3 := Aside0.mk (blk_lt HC.out.2.1)
 clear hb
 go_wp2_with fail
 refine (lexis_Words.calls k s ws 0 0 _ HK.out ⟨Laid.later HT.out HC.out.2.2⟩).mono ?_
 rintro e w4 ⟨vL, rfl, hr, hb⟩
 have HC4 := Aside0.mk (HC.out.below hb)
 obtain ⟨Aw, cw, rfl⟩ := Kd.R_slice hr
 have HWR := Aside0.mk (words_kept hr hlt3.out (.int .i64 0) (.int .i64 0))
 have hlt4 := Aside0.mk (blk_lt HC4.out.2.1)
 clear hb hr HC
 have p0 : w4.cell? ⟨w.heap.size, 0, none⟩ = some (.slice none 0 0) := (blk_cell HC4.out.1 0).trans rfl
 have q0 : w4.cell? ⟨w.heap.size + 1, 0, none⟩ = some (.int .i64 0) := (blk_cell HC4.out.2.1 0).trans rfl
 have q1 : w4.cell? ⟨w.heap.size + 1, 1, none⟩ = some (.int .i64 0) := (blk_cell HC4.out.2.1 1).trans rfl
 have fp := blk_frozen HC4.out.1 0
 have fq := blk_frozen HC4.out.2.1 0
 have fq1 := blk_frozen HC4.out.2.1 1
 obtain ⟨w5, hw5⟩ : ∃ w5, w5 = (w4.setCell ⟨w.heap.size + 1, 0, none⟩ (.int .i64 0)).setCell ⟨w.heap.size + 1, 1, none⟩ (.int .i64 0) := ⟨_, rfl⟩
 have hs5 : Aside0 (w4.heap.size = w5.heap.size) := ⟨by rw [hw5]; simp⟩
 have HW5 := Aside0.mk hw5
 have HC5 : Aside0 (Cells w (.slice none 0 0) (.int .i64 0) (.int .i64 0) w5) := ⟨by rw [hw5]; exact (HC4.out.put1 (.int .i64 0)).put2 (.int .i64 0)⟩
 rw [← hw5] at HWR
 clear hw5
 have HST := Aside0.mk (RdAt.start w5 w4.heap.size hs5.out A names.length c (s.size : Int) Aw cw ws (Kd.R_reads' HWR.out).2.2 (Kd.R_reads' HWR.out).2.1)
 have HD := Aside0.mk (all_does names w5 w4.heap.size A c (s.size : Int) (Kd.C_below HR.out HC5.out.2.2) HCN.out HL8.out (roundsFor ws) (roundsFor ws) (Nat.le_refl _) .iff rfl ⟨ws, []⟩ _ HE.out (by show 0 + ws.length ≤ _; have := HWS.out; omega))
 clear HE HWR
 go_wp2_with fail
 rw [← HW5.out]
 refine (HD.out _ HST.out).mono ?_
 rintro e w6 ⟨rfl, hI⟩
 have HI := Aside0.mk hI
 obtain ⟨A6, c6, vo, hb6, hg6, hC6, hc6, hR6, hB6⟩ := hI
 have HC6 := Aside0.mk (HC5.out.below hB6)
 have d1 : w6.cell? ⟨w4.heap.size, 1, none⟩ = some (.slice A6 r.ws.length c6) := (blk_cell hb6 1).trans rfl
 clear hb6 hg6 hC6 hc6 hR6 hB6
 go_wp2_with (go_at_call 49; refine (fail_calls w5 w4.heap.size A names.length c (s.size : Int) r 150 _ HI.out).mono ?_; rintro e w7 ⟨rfl, hb⟩; have HC7 := Aside0.mk (HC5.out.below hb); unfold thrown)
 refine leaves_cons (f := 46) (args := #[.pointer (some ⟨w.heap.size, 0, none⟩), .pointer (some ⟨w.heap.size + 1, 0, none⟩)]) (by simp) (by simp [go_sem]) ?_
 refine (catch_stop w.heap.size (w.heap.size + 1) 150 (r.place s.size) _ _ _ w _ HC7.out.1 HC7.out.2.1 (by omega) (Nat.le_refl _) (Nat.le_succ _) HC7.out.2.2).mono ?_
 rintro e u' w'' ⟨rfl, rfl, h1, h2, h3⟩
 simp only [settle, List.dropWhile_nil]
 exact ⟨_, read_results ⟨h1, h2, h3⟩ _ rfl rfl, _, rfl, Kd.R_nil _ _ _ _ _, h3⟩
set_option maxHeartbeats 8000000 in
set_option maxRecDepth 100000 in
theorem run_iff_bad (A : Option Addr) (c : Nat) (names : List ByteArray) (s : ByteArray) (w : World) (hr : Kd.C Kd.string w A names.length names) (hc : names.length ≤ c) (h0 : chk names = 0) (hl8 : names.length ≤ 8) (k : Nat) (ws : List Wd) (hk : lexis_Words.f k s = some (ws, 0, 0)) (hws : ws.length ≤ 4096) (r : Rd) (he : run names s.size (roundsFor ws) (ntOf false) ⟨ws, []⟩ = some (.go r)) (hc1 : chkT r.out false ≠ 0) (hw : r.ws = []) (HT : Aside0 (Laid w)) :
  Calls Tryz.prog 35 #[.slice A names.length c, .string s, .bool false] w fun e w' => ∃ v0_ : Value, e = .returned (.tuple #[v0_, .agg #[.int .i64 (chkT r.out false), .int .i64 (-1)]]) ∧ Kd.R k41 41 w' w.heap.size (fun _ => True) v0_ [] ∧ Below w.heap.size w w' := by
 have HR := Aside0.mk hr
 have HK := Aside0.mk hk
 have HCN := Aside0.mk hc
 have HL8 := Aside0.mk hl8
 have HWS := Aside0.mk hws
 have HE := Aside0.mk he
 have c1 : (chk names == 0) = true := beq_iff_eq.2 h0
 have c2 : (chk names != 0) = false := by simp [h0]
 have hmf : ∀ (fn : Fn) (first cap : Array Value) (w : World), (Instr.makeFunc fn first cap).run Tryz.prog w = .ok (.func fn first cap) w := fun _ _ _ _ => rfl
 have hwl : Aside0 (r.ws.length = 0) := ⟨by rw [hw]; rfl⟩
 have c3 : (chkT r.out false == 0) = false := beq_eq_false_iff_ne.2 hc1
 have c4 : (chkT r.out false != 0) = true := bne_iff_ne.2 hc1
 obtain ⟨kc, hkc⟩ := (Check_ev2 r.out).rounds
 have HKC := Aside0.mk hkc
 clear hw hc1 hkc
 clear hr hc h0 hk hl8 hws he
 go_enter_defers Tryz.func35, Tryz.ntmps35
 go_wp2_with fail
 refine (check_calls A c names _ (Kd.C_alloc (Kd.C_alloc HR.out _) _)).mono ?_
 rintro e w3 ⟨rfl, hb⟩
 have HC := Aside0.mk ((Cells.start w _ _ _).below hb)
 have hlt3 := Aside0.mk (blk_lt HC.out.2.1)
 clear hb
 go_wp2_with fail
 refine (lexis_Words.calls k s ws 0 0 _ HK.out ⟨Laid.later HT.out HC.out.2.2⟩).mono ?_
 rintro e w4 ⟨vL, rfl, hr, hb⟩
 have HC4 := Aside0.mk (HC.out.below hb)
 obtain ⟨Aw, cw, rfl⟩ := Kd.R_slice hr
 have HWR := Aside0.mk (words_kept hr hlt3.out (.int .i64 0) (.int .i64 0))
 have hlt4 := Aside0.mk (blk_lt HC4.out.2.1)
 clear hb hr HC
 have p0 : w4.cell? ⟨w.heap.size, 0, none⟩ = some (.slice none 0 0) := (blk_cell HC4.out.1 0).trans rfl
 have q0 : w4.cell? ⟨w.heap.size + 1, 0, none⟩ = some (.int .i64 0) := (blk_cell HC4.out.2.1 0).trans rfl
 have q1 : w4.cell? ⟨w.heap.size + 1, 1, none⟩ = some (.int .i64 0) := (blk_cell HC4.out.2.1 1).trans rfl
 have fp := blk_frozen HC4.out.1 0
 have fq := blk_frozen HC4.out.2.1 0
 have fq1 := blk_frozen HC4.out.2.1 1
 obtain ⟨w5, hw5⟩ : ∃ w5, w5 = (w4.setCell ⟨w.heap.size + 1, 0, none⟩ (.int .i64 0)).setCell ⟨w.heap.size + 1, 1, none⟩ (.int .i64 0) := ⟨_, rfl⟩
 have hs5 : Aside0 (w4.heap.size = w5.heap.size) := ⟨by rw [hw5]; simp⟩
 have HW5 := Aside0.mk hw5
 have HC5 : Aside0 (Cells w (.slice none 0 0) (.int .i64 0) (.int .i64 0) w5) := ⟨by rw [hw5]; exact (HC4.out.put1 (.int .i64 0)).put2 (.int .i64 0)⟩
 rw [← hw5] at HWR
 clear hw5
 have HST := Aside0.mk (RdAt.start w5 w4.heap.size hs5.out A names.length c (s.size : Int) Aw cw ws (Kd.R_reads' HWR.out).2.2 (Kd.R_reads' HWR.out).2.1)
 have HD := Aside0.mk (all_does names w5 w4.heap.size A c (s.size : Int) (Kd.C_below HR.out HC5.out.2.2) HCN.out HL8.out (roundsFor ws) (roundsFor ws) (Nat.le_refl _) .iff rfl ⟨ws, []⟩ _ HE.out (by show 0 + ws.length ≤ _; have := HWS.out; omega))
 clear HE HWR
 go_wp2_with fail
 rw [← HW5.out]
 refine (HD.out _ HST.out).mono ?_
 rintro e w6 ⟨rfl, hI⟩
 have HI := Aside0.mk hI
 obtain ⟨A6, c6, vo, hb6, hg6, hC6, hc6, hR6, hB6⟩ := hI
 have HC6 := Aside0.mk (HC5.out.below hB6)
 have d1 : w6.cell? ⟨w4.heap.size, 1, none⟩ = some (.slice A6 r.ws.length c6) := (blk_cell hb6 1).trans rfl
 obtain ⟨Ao, co, rfl⟩ := Kd.R_slice hR6
 have d3 : w6.cell? ⟨w4.heap.size, 3, none⟩ = some (.slice Ao r.out.length co) := (blk_cell hb6 3).trans rfl
 have HO := Aside0.mk hR6
 rw [hwl.out] at d1
 clear hb6 hg6 hC6 hc6 hR6 hB6 HI
 go_wp2_with fail
 go_at_call 14
 refine (term_Check.calls kc Ao co r.out _ _ (Kd.R_reads' HO.out).2.2 (Kd.R_reads' HO.out).2.1 HKC.out).mono ?_
 rintro e w7 ⟨rfl, hb⟩
 have HC7 := Aside0.mk (HC6.out.below hb)
 have d37 : w7.cell? ⟨w4.heap.size, 3, none⟩ = some (.slice Ao r.out.length co) := (hb.cell (World.block_lt_of_cell? w6 _ d3)).trans d3
 have HB7 := Aside0.mk hb
 clear hb
 have p7 : w7.cell? ⟨w.heap.size, 0, none⟩ = some (.slice none 0 0) := (blk_cell HC7.out.1 0).trans rfl
 have q7 : w7.cell? ⟨w.heap.size + 1, 0, none⟩ = some (.int .i64 0) := (blk_cell HC7.out.2.1 0).trans rfl
 have q71 : w7.cell? ⟨w.heap.size + 1, 1, none⟩ = some (.int .i64 0) := (blk_cell HC7.out.2.1 1).trans rfl
 have fp7 := blk_frozen HC7.out.1 0
 have fq7 := blk_frozen HC7.out.2.1 0
 have fq71 := blk_frozen HC7.out.2.1 1
 go_wp2
 have hC := ((HC7.out.put0 (.slice none 0 0)).put1 (.int .i64 (chkT r.out false))).put2 (.int .i64 (-1))
 refine leaves_cons (f := 46) (args := #[.pointer (some ⟨w.heap.size, 0, none⟩), .pointer (some ⟨w.heap.size + 1, 0, none⟩)]) (by simp) (by simp [go_sem]) ?_
 refine (catch_idle ⟨w.heap.size, 0, none⟩ ⟨w.heap.size + 1, 0, none⟩ _).mono ?_
 rintro e u' w'' ⟨rfl, rfl, rfl⟩
 simp only [settle]
 exact ⟨_, read_results hC _ rfl rfl, _, rfl, Kd.R_nil _ _ _ _ _, hC.2.2⟩
set_option maxHeartbeats 8000000 in
set_option maxRecDepth 100000 in
theorem run_iff_good (A : Option Addr) (c : Nat) (names : List ByteArray) (s : ByteArray) (w : World) (hr : Kd.C Kd.string w A names.length names) (hc : names.length ≤ c) (h0 : chk names = 0) (hl8 : names.length ≤ 8) (k : Nat) (ws : List Wd) (hk : lexis_Words.f k s = some (ws, 0, 0)) (hws : ws.length ≤ 4096) (r : Rd) (he : run names s.size (roundsFor ws) (ntOf false) ⟨ws, []⟩ = some (.go r)) (hc1 : chkT r.out false = 0) (hw : r.ws = []) (HT : Aside0 (Laid w)) :
  Calls Tryz.prog 35 #[.slice A names.length c, .string s, .bool false] w fun e w' => ∃ v0_ : Value, e = .returned (.tuple #[v0_, .agg #[.int .i64 0, .int .i64 0]]) ∧ Kd.R k41 41 w' w.heap.size (fun _ => True) v0_ r.out ∧ Below w.heap.size w w' := by
 have HR := Aside0.mk hr
 have HK := Aside0.mk hk
 have HCN := Aside0.mk hc
 have HL8 := Aside0.mk hl8
 have HWS := Aside0.mk hws
 have HE := Aside0.mk he
 have c1 : (chk names == 0) = true := beq_iff_eq.2 h0
 have c2 : (chk names != 0) = false := by simp [h0]
 have hmf : ∀ (fn : Fn) (first cap : Array Value) (w : World), (Instr.makeFunc fn first cap).run Tryz.prog w = .ok (.func fn first cap) w := fun _ _ _ _ => rfl
 have hwl : Aside0 (r.ws.length = 0) := ⟨by rw [hw]; rfl⟩
 obtain ⟨kc, hkc⟩ := (Check_ev2 r.out).rounds
 rw [hc1] at hkc
 have HKC := Aside0.mk hkc
 clear hw hc1 hkc
 clear hr hc h0 hk hl8 hws he
 go_enter_defers Tryz.func35, Tryz.ntmps35
 go_wp2_with fail
 refine (check_calls A c names _ (Kd.C_alloc (Kd.C_alloc HR.out _) _)).mono ?_
 rintro e w3 ⟨rfl, hb⟩
 have HC := Aside0.mk ((Cells.start w _ _ _).below hb)
 have hlt3 := Aside0.mk (blk_lt HC.out.2.1)
 clear hb
 go_wp2_with fail
 refine (lexis_Words.calls k s ws 0 0 _ HK.out ⟨Laid.later HT.out HC.out.2.2⟩).mono ?_
 rintro e w4 ⟨vL, rfl, hr, hb⟩
 have HC4 := Aside0.mk (HC.out.below hb)
 obtain ⟨Aw, cw, rfl⟩ := Kd.R_slice hr
 have HWR := Aside0.mk (words_kept hr hlt3.out (.int .i64 0) (.int .i64 0))
 have hlt4 := Aside0.mk (blk_lt HC4.out.2.1)
 clear hb hr HC
 have p0 : w4.cell? ⟨w.heap.size, 0, none⟩ = some (.slice none 0 0) := (blk_cell HC4.out.1 0).trans rfl
 have q0 : w4.cell? ⟨w.heap.size + 1, 0, none⟩ = some (.int .i64 0) := (blk_cell HC4.out.2.1 0).trans rfl
 have q1 : w4.cell? ⟨w.heap.size + 1, 1, none⟩ = some (.int .i64 0) := (blk_cell HC4.out.2.1 1).trans rfl
 have fp := blk_frozen HC4.out.1 0
 have fq := blk_frozen HC4.out.2.1 0
 have fq1 := blk_frozen HC4.out.2.1 1
 obtain ⟨w5, hw5⟩ : ∃ w5, w5 = (w4.setCell ⟨w.heap.size + 1, 0, none⟩ (.int .i64 0)).setCell ⟨w.heap.size + 1, 1, none⟩ (.int .i64 0) := ⟨_, rfl⟩
 have hs5 : Aside0 (w4.heap.size = w5.heap.size) := ⟨by rw [hw5]; simp⟩
 have HW5 := Aside0.mk hw5
 have HC5 : Aside0 (Cells w (.slice none 0 0) (.int .i64 0) (.int .i64 0) w5) := ⟨by rw [hw5]; exact (HC4.out.put1 (.int .i64 0)).put2 (.int .i64 0)⟩
 rw [← hw5] at HWR
 clear hw5
 have HST := Aside0.mk (RdAt.start w5 w4.heap.size hs5.out A names.length c (s.size : Int) Aw cw ws (Kd.R_reads' HWR.out).2.2 (Kd.R_reads' HWR.out).2.1)
 have HD := Aside0.mk (all_does names w5 w4.heap.size A c (s.size : Int) (Kd.C_below HR.out HC5.out.2.2) HCN.out HL8.out (roundsFor ws) (roundsFor ws) (Nat.le_refl _) .iff rfl ⟨ws, []⟩ _ HE.out (by show 0 + ws.length ≤ _; have := HWS.out; omega))
 clear HE HWR
 go_wp2_with fail
 rw [← HW5.out]
 refine (HD.out _ HST.out).mono ?_
 rintro e w6 ⟨rfl, hI⟩
 have HI := Aside0.mk hI
 obtain ⟨A6, c6, vo, hb6, hg6, hC6, hc6, hR6, hB6⟩ := hI
 have HC6 := Aside0.mk (HC5.out.below hB6)
 have d1 : w6.cell? ⟨w4.heap.size, 1, none⟩ = some (.slice A6 r.ws.length c6) := (blk_cell hb6 1).trans rfl
 obtain ⟨Ao, co, rfl⟩ := Kd.R_slice hR6
 have d3 : w6.cell? ⟨w4.heap.size, 3, none⟩ = some (.slice Ao r.out.length co) := (blk_cell hb6 3).trans rfl
 have HO := Aside0.mk hR6
 rw [hwl.out] at d1
 clear hb6 hg6 hC6 hc6 hR6 hB6 HI
 go_wp2_with fail
 go_at_call 14
 refine (term_Check.calls kc Ao co r.out _ _ (Kd.R_reads' HO.out).2.2 (Kd.R_reads' HO.out).2.1 HKC.out).mono ?_
 rintro e w7 ⟨rfl, hb⟩
 have HC7 := Aside0.mk (HC6.out.below hb)
 have d37 : w7.cell? ⟨w4.heap.size, 3, none⟩ = some (.slice Ao r.out.length co) := (hb.cell (World.block_lt_of_cell? w6 _ d3)).trans d3
 have HB7 := Aside0.mk hb
 clear hb
 have p7 : w7.cell? ⟨w.heap.size, 0, none⟩ = some (.slice none 0 0) := (blk_cell HC7.out.1 0).trans rfl
 have q7 : w7.cell? ⟨w.heap.size + 1, 0, none⟩ = some (.int .i64 0) := (blk_cell HC7.out.2.1 0).trans rfl
 have q71 : w7.cell? ⟨w.heap.size + 1, 1, none⟩ = some (.int .i64 0) := (blk_cell HC7.out.2.1 1).trans rfl
 have fp7 := blk_frozen HC7.out.1 0
 have fq7 := blk_frozen HC7.out.2.1 0
 have fq71 := blk_frozen HC7.out.2.1 1
 go_wp2
 have hC := ((HC7.out.put0 (.slice Ao r.out.length co)).put1 (.int .i64 0)).put2 (.int .i64 0)
 have hlt5 : w.heap.size + 1 < w5.heap.size := by rw [← hs5.out]; exact hlt4.out
 have hK := toks_kept HO.out hlt5 HB7.out (.slice Ao r.out.length co) (.int .i64 0) (.int .i64 0)
 refine leaves_cons (f := 46) (args := #[.pointer (some ⟨w.heap.size, 0, none⟩), .pointer (some ⟨w.heap.size + 1, 0, none⟩)]) (by simp) (by simp [go_sem]) ?_
 refine (catch_idle ⟨w.heap.size, 0, none⟩ ⟨w.heap.size + 1, 0, none⟩ _).mono ?_
 rintro e u' w'' ⟨rfl, rfl, rfl⟩
 simp only [settle]
 exact ⟨_, read_results hC _ rfl rfl, _, rfl, hK, hC.2.2⟩
set_option maxHeartbeats 8000000 in
set_option maxRecDepth 100000 in
theorem run_plus_thrown (A : Option Addr) (c : Nat) (names : List ByteArray) (s : ByteArray) (w : World) (hr : Kd.C Kd.string w A names.length names) (hc : names.length ≤ c) (h0 : chk names = 0) (hl8 : names.length ≤ 8) (k : Nat) (ws : List Wd) (hk : lexis_Words.f k s = some (ws, 0, 0)) (hws : ws.length ≤ 4096) (er at_ : Int) (he : run names s.size (roundsFor ws) (ntOf true) ⟨ws, []⟩ = some (.stop er at_)) (HT : Aside0 (Laid w)) :
  Calls Tryz.prog 35 #[.slice A names.length c, .string s, .bool true] w fun e w' => ∃ v0_ : Value, e = .returned (.tuple #[v0_, .agg #[.int .i64 er, .int .i64 at_]]) ∧ Kd.R k41 41 w' w.heap.size (fun _ => True) v0_ [] ∧ Below w.heap.size w w' := by
 have HR := Aside0.mk hr
 have HK := Aside0.mk hk
 have HCN := Aside0.mk hc
 have HL8 := Aside0.mk hl8
 have HWS := Aside0.mk hws
 have HE := Aside0.mk he
 have c1 : (chk names == 0) = true := beq_iff_eq.2 h0
 have c2 : (chk names != 0) = false := by simp [h0]
 have hmf : ∀ (fn : Fn) (first cap : Array Value) (w : World), (Instr.makeFunc fn first cap).run Tryz.prog w = .ok (.func fn first cap) w := fun _ _ _ _ => rfl
 clear hr hc h0 hk hl8 hws he
 go_enter_defers Tryz.func35, Tryz.ntmps35
 go_wp2_with fail
 refine (check_calls A c names _ (Kd.C_alloc (Kd.C_alloc HR.out _) _)).mono ?_
 rintro e w3 ⟨rfl, hb⟩
 have HC := Aside0.mk ((Cells.start w _ _ _).below hb)
 have hlt3 := Aside0.mk (blk_lt HC.out.2.1)
 clear hb
 go_wp2_with fail
 refine (lexis_Words.calls k s ws 0 0 _ HK.out ⟨Laid.later HT.out HC.out.2.2⟩).mono ?_
 rintro e w4 ⟨vL, rfl, hr, hb⟩
 have HC4 := Aside0.mk (HC.out.below hb)
 obtain ⟨Aw, cw, rfl⟩ := Kd.R_slice hr
 have HWR := Aside0.mk (words_kept hr hlt3.out (.int .i64 0) (.int .i64 0))
 have hlt4 := Aside0.mk (blk_lt HC4.out.2.1)
 clear hb hr HC
 have p0 : w4.cell? ⟨w.heap.size, 0, none⟩ = some (.slice none 0 0) := (blk_cell HC4.out.1 0).trans rfl
 have q0 : w4.cell? ⟨w.heap.size + 1, 0, none⟩ = some (.int .i64 0) := (blk_cell HC4.out.2.1 0).trans rfl
 have q1 : w4.cell? ⟨w.heap.size + 1, 1, none⟩ = some (.int .i64 0) := (blk_cell HC4.out.2.1 1).trans rfl
 have fp := blk_frozen HC4.out.1 0
 have fq := blk_frozen HC4.out.2.1 0
 have fq1 := blk_frozen HC4.out.2.1 1
 obtain ⟨w5, hw5⟩ : ∃ w5, w5 = (w4.setCell ⟨w.heap.size + 1, 0, none⟩ (.int .i64 0)).setCell ⟨w.heap.size + 1, 1, none⟩ (.int .i64 0) := ⟨_, rfl⟩
 have hs5 : Aside0 (w4.heap.size = w5.heap.size) := ⟨by rw [hw5]; simp⟩
 have HW5 := Aside0.mk hw5
 have HC5 : Aside0 (Cells w (.slice none 0 0) (.int .i64 0) (.int .i64 0) w5) := ⟨by rw [hw5]; exact (HC4.out.put1 (.int .i64 0)).put2 (.int .i64 0)⟩
 rw [← hw5] at HWR
 clear hw5
 have HST := Aside0.mk (RdAt.start w5 w4.heap.size hs5.out A names.length c (s.size : Int) Aw cw ws (Kd.R_reads' HWR.out).2.2 (Kd.R_reads' HWR.out).2.1)
 have HD := Aside0.mk (all_does names w5 w4.heap.size A c (s.size : Int) (Kd.C_below HR.out HC5.out.2.2) HCN.out HL8.out (roundsFor ws) (roundsFor ws) (Nat.le_refl _) .plus rfl ⟨ws, []⟩ _ HE.out (by show 0 + ws.length ≤ _; have := HWS.out; omega))
 clear HE HWR
 go_wp2_with fail
 rw [← HW5.out]
 refine (HD.out _ HST.out).mono ?_
 rintro e w6 ⟨rfl, hb⟩
 have HC6 := Aside0.mk (HC5.out.below hb)
 clear hb
 unfold thrown
 go_wp2
 refine leaves_cons (f := 46) (args := #[.pointer (some ⟨w.heap.size, 0, none⟩), .pointer (some ⟨w.heap.size + 1, 0, none⟩)]) (by simp) (by simp [go_sem]) ?_
 refine (catch_stop w.heap.size (w.heap.size + 1) er at_ _ _ _ w _ HC6.out.1 HC6.out.2.1 (by omega) (Nat.le_refl _) (Nat.le_succ _) HC6.out.2.2).mono ?_
 rintro e u' w'' ⟨rfl, rfl, h1, h2, h3⟩
 simp only [settle, List.dropWhile_nil]
 exact ⟨_, read_results ⟨h1, h2, h3⟩ _ rfl rfl, _, rfl, Kd.R_nil _ _ _ _ _, h3⟩
set_option maxHeartbeats 8000000 in
set_option maxRecDepth 100000 in
theorem run_plus_left (A : Option Addr) (c : Nat) (names : List ByteArray) (s : ByteArray) (w : World) (hr : Kd.C Kd.string w A names.length names) (hc : names.length ≤ c) (h0 : chk names = 0) (hl8 : names.length ≤ 8) (k : Nat) (ws : List Wd) (hk : lexis_Words.f k s = some (ws, 0, 0)) (hws : ws.length ≤ 4096) (r : Rd) (he : run names s.size (roundsFor ws) (ntOf true) ⟨ws, []⟩ = some (.go r)) (hw : r.ws ≠ []) (HT : Aside0 (Laid w)) :
  Calls Tryz.prog 35 #[.slice A names.length c, .string s, .bool true] w fun e w' => ∃ v0_ : Value, e = .returned (.tuple #[v0_, .agg #[.int .i64 150, .int .i64 (r.place s.size)]]) ∧ Kd.R k41 41 w' w.heap.size (fun _ => True) v0_ [] ∧ Below w.heap.size w w' := by
 have HR := Aside0.mk hr
 have HK := Aside0.mk hk
 have HCN := Aside0.mk hc
 have HL8 := Aside0.mk hl8
 have HWS := Aside0.mk hws
 have HE := Aside0.mk he
 have c1 : (chk names == 0) = true := beq_iff_eq.2 h0
 have c2 : (chk names != 0) = false := by simp [h0]
 have hmf : ∀ (fn : Fn) (first cap : Array Value) (w : World), (Instr.makeFunc fn first cap).run Tryz.prog w = .ok (.func fn first cap) w := fun _ _ _ _ => rfl
 have hwl : 0 < r.ws.length := List.length_pos_iff.2 hw
 have t1 : decide ((0 : Int) < (r.ws.length : Int)) = true := decide_eq_true (by omega)
 have t2 := eq_true (show (0 : Int) < (r.ws.length : Int) by omega)
 have t3 := eq_true hwl
 have t4 := decide_eq_true hwl
 clear hw hwl
 clear hr hc h0 hk hl8 hws he
 go_enter_defers Tryz.func35, Tryz.ntmps35
 go_wp2_with fail
 refine (check_calls A c names _ (Kd.C_alloc (Kd.C_alloc HR.out _) _)).mono ?_
 rintro e w3 ⟨rfl, hb⟩
 have HC := Aside0.mk ((Cells.start w _ _ _).below hb)
 have hlt3 := Aside0.mk (blk_lt HC.out.2.1)
 clear hb
 go_wp2_with fail
 refine (lexis_Words.calls k s ws 0 0 _ HK.out ⟨Laid.later HT.out HC.out.2.2⟩).mono ?_
 rintro e w4 ⟨vL, rfl, hr, hb⟩
 have HC4 := Aside0.mk (HC.out.below hb)
 obtain ⟨Aw, cw, rfl⟩ := Kd.R_slice hr
 have HWR := Aside0.mk (words_kept hr hlt3.out (.int .i64 0) (.int .i64 0))
 have hlt4 := Aside0.mk (blk_lt HC4.out.2.1)
 clear hb hr HC
 have p0 : w4.cell? ⟨w.heap.size, 0, none⟩ = some (.slice none 0 0) := (blk_cell HC4.out.1 0).trans rfl
 have q0 : w4.cell? ⟨w.heap.size + 1, 0, none⟩ = some (.int .i64 0) := (blk_cell HC4.out.2.1 0).trans rfl
 have q1 : w4.cell? ⟨w.heap.size + 1, 1, none⟩ = some (.int .i64 0) := (blk_cell HC4.out.2.1 1).trans rfl
 have fp := blk_frozen HC4.out.1 0
 have fq := blk_frozen HC4.out.2.1 0
 have fq1 := blk_frozen HC4.out.2.1 1
 obtain ⟨w5, hw5⟩ : ∃ w5, w5 = (w4.setCell ⟨w.heap.size + 1, 0, none⟩ (.int .i64 0)).setCell ⟨w.heap.size + 1, 1, none⟩ (.int .i64 0) := ⟨_, rfl⟩
 have hs5 : Aside0 (w4.heap.size = w5.heap.size) := ⟨by rw [hw5]; simp⟩
 have HW5 := Aside0.mk hw5
 have HC5 : Aside0 (Cells w (.slice none 0 0) (.int .i64 0) (.int .i64 0) w5) := ⟨by rw [hw5]; exact (HC4.out.put1 (.int .i64 0)).put2 (.int .i64 0)⟩
 rw [← hw5] at HWR
 clear hw5
 have HST := Aside0.mk (RdAt.start w5 w4.heap.size hs5.out A names.length c (s.size : Int) Aw cw ws (Kd.R_reads' HWR.out).2.2 (Kd.R_reads' HWR.out).2.1)
 have HD := Aside0.mk (all_does names w5 w4.heap.size A c (s.size : Int) (Kd.C_below HR.out HC5.out.2.2) HCN.out HL8.out (roundsFor ws) (roundsFor ws) (Nat.le_refl _) .plus rfl ⟨ws, []⟩ _ HE.out (by show 0 + ws.length ≤ _; have := HWS.out; omega))
 clear HE HWR
 go_wp2_with fail
 rw [← HW5.out]
 refine (HD.out _ HST.out).mono ?_
 rintro e w6 ⟨rfl, hI⟩
 have HI := Aside0.mk hI
 obtain ⟨A6, c6, vo, hb6, hg6, hC6, hc6, hR6, hB6⟩ := hI
 have HC6 := Aside0.mk (HC5.out.below hB6)
 have d1 : w6.cell? ⟨w4.heap.size, 1, none⟩ = some (.slice A6 r.ws.length c6) := (blk_cell hb6 1).trans rfl
 clear hb6 hg6 hC6 hc6 hR6 hB6
 go_wp2_with (go_at_call 49; refine (fail_calls w5 w4.heap.size A names.length c (s.size : Int) r 150 _ HI.out).mono ?_; rintro e w7 ⟨rfl, hb⟩; have HC7 := Aside0.mk (HC5.out.below hb); unfold thrown)
 refine leaves_cons (f := 46) (args := #[.pointer (some ⟨w.heap.size, 0, none⟩), .pointer (some ⟨w.heap.size + 1, 0, none⟩)]) (by simp) (by simp [go_sem]) ?_
 refine (catch_stop w.heap.size (w.heap.size + 1) 150 (r.place s.size) _ _ _ w _ HC7.out.1 HC7.out.2.1 (by omega) (Nat.le_refl _) (Nat.le_succ _) HC7.out.2.2).mono ?_
 rintro e u' w'' ⟨rfl, rfl, h1, h2, h3⟩
 simp only [settle, List.dropWhile_nil]
 exact ⟨_, read_results ⟨h1, h2, h3⟩ _ rfl rfl, _, rfl, Kd.R_nil _ _ _ _ _, h3⟩
set_option maxHeartbeats 8000000 in
set_option maxRecDepth 100000 in
theorem run_plus_bad (A : Option Addr) (c : Nat) (names : List ByteArray) (s : ByteArray) (w : World) (hr : Kd.C Kd.string w A names.length names) (hc : names.length ≤ c) (h0 : chk names = 0) (hl8 : names.length ≤ 8) (k : Nat) (ws : List Wd) (hk : lexis_Words.f k s = some (ws, 0, 0)) (hws : ws.length ≤ 4096) (r : Rd) (he : run names s.size (roundsFor ws) (ntOf true) ⟨ws, []⟩ = some (.go r)) (hc1 : chkT r.out true ≠ 0) (hw : r.ws = []) (HT : Aside0 (Laid w)) :
  Calls Tryz.prog 35 #[.slice A names.length c, .string s, .bool true] w fun e w' => ∃ v0_ : Value, e = .returned (.tuple #[v0_, .agg #[.int .i64 (chkT r.out true), .int .i64 (-1)]]) ∧ Kd.R k41 41 w' w.heap.size (fun _ => True) v0_ [] ∧ Below w.heap.size w w' := by
 have HR := Aside0.mk hr
 have HK := Aside0.mk hk
 have HCN := Aside0.mk hc
 have HL8 := Aside0.mk hl8
 have HWS := Aside0.mk hws
 have HE := Aside0.mk he
 have c1 : (chk names == 0) = true := beq_iff_eq.2 h0
 have c2 : (chk names != 0) = false := by simp [h0]
 have hmf : ∀ (fn : Fn) (first cap : Array Value) (w : World), (Instr.makeFunc fn first cap).run Tryz.prog w = .ok (.func fn first cap) w := fun _ _ _ _ => rfl
 have hwl : Aside0 (r.ws.length = 0) := ⟨by rw [hw]; rfl⟩
 have c3 : (chkT r.out true == 0) = false := beq_eq_false_iff_ne.2 hc1
 have c4 : (chkT r.out true != 0) = true := bne_iff_ne.2 hc1
 obtain ⟨kc, hkc⟩ := (Path_ev2 r.out).rounds
 have HKC := Aside0.mk hkc
 clear hw hc1 hkc
 clear hr hc h0 hk hl8 hws he
 go_enter_defers Tryz.func35, Tryz.ntmps35
 go_wp2_with fail
 refine (check_calls A c names _ (Kd.C_alloc (Kd.C_alloc HR.out _) _)).mono ?_
 rintro e w3 ⟨rfl, hb⟩
 have HC := Aside0.mk ((Cells.start w _ _ _).below hb)
 have hlt3 := Aside0.mk (blk_lt HC.out.2.1)
 clear hb
 go_wp2_with fail
 refine (lexis_Words.calls k s ws 0 0 _ HK.out ⟨Laid.later HT.out HC.out.2.2⟩).mono ?_
 rintro e w4 ⟨vL, rfl, hr, hb⟩
 have HC4 := Aside0.mk (HC.out.below hb)
 obtain ⟨Aw, cw, rfl⟩ := Kd.R_slice hr
 have HWR := Aside0.mk (words_kept hr hlt3.out (.int .i64 0) (.int .i64 0))
 have hlt4 := Aside0.mk (blk_lt HC4.out.2.1)
 clear hb hr HC
 have p0 : w4.cell? ⟨w.heap.size, 0, none⟩ = some (.slice none 0 0) := (blk_cell HC4.out.1 0).trans rfl
 have q0 : w4.cell? ⟨w.heap.size + 1, 0, none⟩ = some (.int .i64 0) := (blk_cell HC4.out.2.1 0).trans rfl
 have q1 : w4.cell? ⟨w.heap.size + 1, 1, none⟩ = some (.int .i64 0) := (blk_cell HC4.out.2.1 1).trans rfl
 have fp := blk_frozen HC4.out.1 0
 have fq := blk_frozen HC4.out.2.1 0
 have fq1 := blk_frozen HC4.out.2.1 1
 obtain ⟨w5, hw5⟩ : ∃ w5, w5 = (w4.setCell ⟨w.heap.size + 1, 0, none⟩ (.int .i64 0)).setCell ⟨w.heap.size + 1, 1, none⟩ (.int .i64 0) := ⟨_, rfl⟩
 have hs5 : Aside0 (w4.heap.size = w5.heap.size) := ⟨by rw [hw5]; simp⟩
 have HW5 := Aside0.mk hw5
 have HC5 : Aside0 (Cells w (.slice none 0 0) (.int .i64 0) (.int .i64 0) w5) := ⟨by rw [hw5]; exact (HC4.out.put1 (.int .i64 0)).put2 (.int .i64 0)⟩
 rw [← hw5] at HWR
 clear hw5
 have HST := Aside0.mk (RdAt.start w5 w4.heap.size hs5.out A names.length c (s.size : Int) Aw cw ws (Kd.R_reads' HWR.out).2.2 (Kd.R_reads' HWR.out).2.1)
 have HD := Aside0.mk (all_does names w5 w4.heap.size A c (s.size : Int) (Kd.C_below HR.out HC5.out.2.2) HCN.out HL8.out (roundsFor ws) (roundsFor ws) (Nat.le_refl _) .plus rfl ⟨ws, []⟩ _ HE.out (by show 0 + ws.length ≤ _; have := HWS.out; omega))
 clear HE HWR
 go_wp2_with fail
 rw [← HW5.out]
 refine (HD.out _ HST.out).mono ?_
 rintro e w6 ⟨rfl, hI⟩
 have HI := Aside0.mk hI
 obtain ⟨A6, c6, vo, hb6, hg6, hC6, hc6, hR6, hB6⟩ := hI
 have HC6 := Aside0.mk (HC5.out.below hB6)
 have d1 : w6.cell? ⟨w4.heap.size, 1, none⟩ = some (.slice A6 r.ws.length c6) := (blk_cell hb6 1).trans rfl
 obtain ⟨Ao, co, rfl⟩ := Kd.R_slice hR6
 have d3 : w6.cell? ⟨w4.heap.size, 3, none⟩ = some (.slice Ao r.out.length co) := (blk_cell hb6 3).trans rfl
 have HO := Aside0.mk hR6
 rw [hwl.out] at d1
 clear hb6 hg6 hC6 hc6 hR6 hB6 HI
 go_wp2_with fail
 go_at_call 19
 refine (term_Path.calls kc Ao co r.out _ _ (Kd.R_reads' HO.out).2.2 (Kd.R_reads' HO.out).2.1 HKC.out).mono ?_
 rintro e w7 ⟨rfl, hb⟩
 have HC7 := Aside0.mk (HC6.out.below hb)
 have d37 : w7.cell? ⟨w4.heap.size, 3, none⟩ = some (.slice Ao r.out.length co) := (hb.cell (World.block_lt_of_cell? w6 _ d3)).trans d3
 have HB7 := Aside0.mk hb
 clear hb
 have p7 : w7.cell? ⟨w.heap.size, 0, none⟩ = some (.slice none 0 0) := (blk_cell HC7.out.1 0).trans rfl
 have q7 : w7.cell? ⟨w.heap.size + 1, 0, none⟩ = some (.int .i64 0) := (blk_cell HC7.out.2.1 0).trans rfl
 have q71 : w7.cell? ⟨w.heap.size + 1, 1, none⟩ = some (.int .i64 0) := (blk_cell HC7.out.2.1 1).trans rfl
 have fp7 := blk_frozen HC7.out.1 0
 have fq7 := blk_frozen HC7.out.2.1 0
 have fq71 := blk_frozen HC7.out.2.1 1
 go_wp2
 have hC := ((HC7.out.put0 (.slice none 0 0)).put1 (.int .i64 (chkT r.out true))).put2 (.int .i64 (-1))
 refine leaves_cons (f := 46) (args := #[.pointer (some ⟨w.heap.size, 0, none⟩), .pointer (some ⟨w.heap.size + 1, 0, none⟩)]) (by simp) (by simp [go_sem]) ?_
 refine (catch_idle ⟨w.heap.size, 0, none⟩ ⟨w.heap.size + 1, 0, none⟩ _).mono ?_
 rintro e u' w'' ⟨rfl, rfl, rfl⟩
 simp only [settle]
 exact ⟨_, read_results hC _ rfl rfl, _, rfl, Kd.R_nil _ _ _ _ _, hC.2.2⟩
set_option maxHeartbeats 8000000 in
set_option maxRecDepth 100000 in
theorem run_plus_good (A : Option Addr) (c : Nat) (names : List ByteArray) (s : ByteArray) (w : World) (hr : Kd.C Kd.string w A names.length names) (hc : names.length ≤ c) (h0 : chk names = 0) (hl8 : names.length ≤ 8) (k : Nat) (ws : List Wd) (hk : lexis_Words.f k s = some (ws, 0, 0)) (hws : ws.length ≤ 4096) (r : Rd) (he : run names s.size (roundsFor ws) (ntOf true) ⟨ws, []⟩ = some (.go r)) (hc1 : chkT r.out true = 0) (hw : r.ws = []) (HT : Aside0 (Laid w)) :
  Calls Tryz.prog 35 #[.slice A names.length c, .string s, .bool true] w fun e w' => ∃ v0_ : Value, e = .returned (.tuple #[v0_, .agg #[.int .i64 0, .int .i64 0]]) ∧ Kd.R k41 41 w' w.heap.size (fun _ => True) v0_ r.out ∧ Below w.heap.size w w' := by
 have HR := Aside0.mk hr
 have HK := Aside0.mk hk
 have HCN := Aside0.mk hc
 have HL8 := Aside0.mk hl8
 have HWS := Aside0.mk hws
 have HE := Aside0.mk he
 have c1 : (chk names == 0) = true := beq_iff_eq.2 h0
 have c2 : (chk names != 0) = false := by simp [h0]
 have hmf : ∀ (fn : Fn) (first cap : Array Value) (w : World), (Instr.makeFunc fn first cap).run Tryz.prog w = .ok (.func fn first cap) w := fun _ _ _ _ => rfl
 have hwl : Aside0 (r.ws.length = 0) := ⟨by rw [hw]; rfl⟩
 obtain ⟨kc, hkc⟩ := (Path_ev2 r.out).rounds
 rw [hc1] at hkc
 have HKC := Aside0.mk hkc
 clear hw hc1 hkc
 clear hr hc h0 hk hl8 hws he
 go_enter_defers Tryz.func35, Tryz.ntmps35
 go_wp2_with fail
 refine (check_calls A c names _ (Kd.C_alloc (Kd.C_alloc HR.out _) _)).mono ?_
 rintro e w3 ⟨rfl, hb⟩
 have HC := Aside0.mk ((Cells.start w _ _ _).below hb)
 have hlt3 := Aside0.mk (blk_lt HC.out.2.1)
 clear hb
 go_wp2_with fail
 refine (lexis_Words.calls k s ws 0 0 _ HK.out ⟨Laid.later HT.out HC.out.2.2⟩).mono ?_
 rintro e w4 ⟨vL, rfl, hr, hb⟩
 have HC4 := Aside0.mk (HC.out.below hb)
 obtain ⟨Aw, cw, rfl⟩ := Kd.R_slice hr
 have HWR := Aside0.mk (words_kept hr hlt3.out (.int .i64 0) (.int .i64 0))
 have hlt4 := Aside0.mk (blk_lt HC4.out.2.1)
 clear hb hr HC
 have p0 : w4.cell? ⟨w.heap.size, 0, none⟩ = some (.slice none 0 0) := (blk_cell HC4.out.1 0).trans rfl
 have q0 : w4.cell? ⟨w.heap.size + 1, 0, none⟩ = some (.int .i64 0) := (blk_cell HC4.out.2.1 0).trans rfl
 have q1 : w4.cell? ⟨w.heap.size + 1, 1, none⟩ = some (.int .i64 0) := (blk_cell HC4.out.2.1 1).trans rfl
 have fp := blk_frozen HC4.out.1 0
 have fq := blk_frozen HC4.out.2.1 0
 have fq1 := blk_frozen HC4.out.2.1 1
 obtain ⟨w5, hw5⟩ : ∃ w5, w5 = (w4.setCell ⟨w.heap.size + 1, 0, none⟩ (.int .i64 0)).setCell ⟨w.heap.size + 1, 1, none⟩ (.int .i64 0) := ⟨_, rfl⟩
 have hs5 : Aside0 (w4.heap.size = w5.heap.size) := ⟨by rw [hw5]; simp⟩
 have HW5 := Aside0.mk hw5
 have HC5 : Aside0 (Cells w (.slice none 0 0) (.int .i64 0) (.int .i64 0) w5) := ⟨by rw [hw5]; exact (HC4.out.put1 (.int .i64 0)).put2 (.int .i64 0)⟩
 rw [← hw5] at HWR
 clear hw5
 have HST := Aside0.mk (RdAt.start w5 w4.heap.size hs5.out A names.length c (s.size : Int) Aw cw ws (Kd.R_reads' HWR.out).2.2 (Kd.R_reads' HWR.out).2.1)
 have HD := Aside0.mk (all_does names w5 w4.heap.size A c (s.size : Int) (Kd.C_below HR.out HC5.out.2.2) HCN.out HL8.out (roundsFor ws) (roundsFor ws) (Nat.le_refl _) .plus rfl ⟨ws, []⟩ _ HE.out (by show 0 + ws.length ≤ _; have := HWS.out; omega))
 clear HE HWR
 go_wp2_with fail
 rw [← HW5.out]
 refine (HD.out _ HST.out).mono ?_
 rintro e w6 ⟨rfl, hI⟩
 have HI := Aside0.mk hI
 obtain ⟨A6, c6, vo, hb6, hg6, hC6, hc6, hR6, hB6⟩ := hI
 have HC6 := Aside0.mk (HC5.out.below hB6)
 have d1 : w6.cell? ⟨w4.heap.size, 1, none⟩ = some (.slice A6 r.ws.length c6) := (blk_cell hb6 1).trans rfl
 obtain ⟨Ao, co, rfl⟩ := Kd.R_slice hR6
 have d3 : w6.cell? ⟨w4.heap.size, 3, none⟩ = some (.slice Ao r.out.length co) := (blk_cell hb6 3).trans rfl
 have HO := Aside0.mk hR6
 rw [hwl.out] at d1
 clear hb6 hg6 hC6 hc6 hR6 hB6 HI
 go_wp2_with fail
 go_at_call 19
 refine (term_Path.calls kc Ao co r.out _ _ (Kd.R_reads' HO.out).2.2 (Kd.R_reads' HO.out).2.1 HKC.out).mono ?_
 rintro e w7 ⟨rfl, hb⟩
 have HC7 := Aside0.mk (HC6.out.below hb)
 have d37 : w7.cell? ⟨w4.heap.size, 3, none⟩ = some (.slice Ao r.out.length co) := (hb.cell (World.block_lt_of_cell? w6 _ d3)).trans d3
 have HB7 := Aside0.mk hb
 clear hb
 have p7 : w7.cell? ⟨w.heap.size, 0, none⟩ = some (.slice none 0 0) := (blk_cell HC7.out.1 0).trans rfl
 have q7 : w7.cell? ⟨w.heap.size + 1, 0, none⟩ = some (.int .i64 0) := (blk_cell HC7.out.2.1 0).trans rfl
 have q71 : w7.cell? ⟨w.heap.size + 1, 1, none⟩ = some (.int .i64 0) := (blk_cell HC7.out.2.1 1).trans rfl
 have fp7 := blk_frozen HC7.out.1 0
 have fq7 := blk_frozen HC7.out.2.1 0
 have fq71 := blk_frozen HC7.out.2.1 1
 go_wp2
 have hC := ((HC7.out.put0 (.slice Ao r.out.length co)).put1 (.int .i64 0)).put2 (.int .i64 0)
 have hlt5 : w.heap.size + 1 < w5.heap.size := by rw [← hs5.out]; exact hlt4.out
 have hK := toks_kept HO.out hlt5 HB7.out (.slice Ao r.out.length co) (.int .i64 0) (.int .i64 0)
 refine leaves_cons (f := 46) (args := #[.pointer (some ⟨w.heap.size, 0, none⟩), .pointer (some ⟨w.heap.size + 1, 0, none⟩)]) (by simp) (by simp [go_sem]) ?_
 refine (catch_idle ⟨w.heap.size, 0, none⟩ ⟨w.heap.size + 1, 0, none⟩ _).mono ?_
 rintro e u' w'' ⟨rfl, rfl, rfl⟩
 simp only [settle]
 exact ⟨_, read_results hC _ rfl rfl, _, rfl, hK, hC.2.2⟩
theorem chk_len {names : List ByteArray} (h : chk names = 0) : names.length ≤ 8 := by
 unfold chk at h
 split at h
 ·exact absurd h (by decide)
 ·omega
theorem readW_stop {names : List ByteArray} {last : Int} {n : Nat} {nt : Nt} {ws : List Wd} {er a : Int} (h : run names last n nt ⟨ws, []⟩ = some (.stop er a)) : readW names last n nt ws = some (.stop er a) := by
 unfold readW; rw [h]; rfl
theorem readW_go {names : List ByteArray} {last : Int} {n : Nat} {nt : Nt} {ws : List Wd} {q : Rd} (h : run names last n nt ⟨ws, []⟩ = some (.go q)) (hq : q.ws = []) : readW names last n nt ws = some (.go q) := by
 unfold readW; rw [h]
 show (match q.ws with | [] => some (End.go q) | _ :: _ => some (q.fail last 150)) = _
 rw [hq]
theorem readW_left {names : List ByteArray} {last : Int} {n : Nat} {nt : Nt} {ws : List Wd} {q : Rd} (h : run names last n nt ⟨ws, []⟩ = some (.go q)) (hq : q.ws ≠ []) : readW names last n nt ws = some (.stop 150 (q.place last)) := by
 unfold readW; rw [h]
 show (match q.ws with | [] => some (End.go q) | _ :: _ => some (q.fail last 150)) = _
 cases hw : q.ws with
 | nil => exact absurd hw hq
 | cons a b => rfl
theorem run_all (path : Bool) (A : Option Addr) (c : Nat) (names : List ByteArray) (s : ByteArray) (w : World) (hr : Kd.C Kd.string w A names.length names) (hc : names.length ≤ c) (h0 : chk names = 0) (k : Nat) (ws : List Wd) (hk : lexis_Words.f k s = some (ws, 0, 0)) (hws : ws.length ≤ 4096) (HT : Aside0 (Laid w))
  (r : List Tk × Int × Int) (hr1 : endL path (readW names s.size (roundsFor ws) (ntOf path) ws) = r) :
  Calls Tryz.prog 35 #[.slice A names.length c, .string s, .bool path] w fun e w' => ∃ v0_ : Value, e = .returned (.tuple #[v0_, .agg #[.int .i64 r.2.1, .int .i64 r.2.2]]) ∧ Kd.R k41 41 w' w.heap.size (fun _ => True) v0_ r.1 ∧ Below w.heap.size w w' := by
 have hl8 := chk_len h0
 obtain ⟨e, he⟩ := run_total names s.size (roundsFor ws) (ntOf path) ⟨ws, []⟩ (by unfold roundsFor ntOf; cases path <;> simp [rank])
 subst hr1
 cases e with
 | stop er at_ =>
  rw [readW_stop he]
  cases path
  ·exact run_iff_thrown A c names s w hr hc h0 hl8 k ws hk hws er at_ he HT
  ·exact run_plus_thrown A c names s w hr hc h0 hl8 k ws hk hws er at_ he HT
 | go q =>
  by_cases hq : q.ws = []
  ·rw [readW_go he hq]
   by_cases hc1 : chkT q.out path = 0
   ·rw [show endL path (some (.go q)) = (q.out, 0, 0) from if_pos hc1]
    cases path
    ·exact run_iff_good A c names s w hr hc h0 hl8 k ws hk hws q he hc1 hq HT
    ·exact run_plus_good A c names s w hr hc h0 hl8 k ws hk hws q he hc1 hq HT
   ·rw [show endL path (some (.go q)) = ([], chkT q.out path, -1) from if_neg hc1]
    cases path
    ·exact run_iff_bad A c names s w hr hc h0 hl8 k ws hk hws q he hc1 hq HT
    ·exact run_plus_bad A c names s w hr hc h0 hl8 k ws hk hws q he hc1 hq HT
  ·rw [readW_left he hq]
   cases path
   ·exact run_iff_left A c names s w hr hc h0 hl8 k ws hk hws q he hq HT
   ·exact run_plus_left A c names s w hr hc h0 hl8 k ws hk hws q he hq HT
theorem parse_read.calls (A0 : Option Addr) (c0 : Nat) (l0 : List ByteArray) (a1 : ByteArray) (a2 : Bool) (r1 : List (S41)) (r2 : Int) (r3 : Int) (w : World) (hr0 : Kd.C Kd.string w A0 l0.length l0) (hc0 : l0.length ≤ c0) (h : parse_read.f l0 a1 a2 = some (r1, r2, r3)) (HT : Aside0 (Laid w) := by exact ⟨Laid.later HT.out (by repeat (first | (with_reducible first | exact HB.out | apply below_alloc | apply pw_below_drewN | apply below_drew1) | exact HB.out))⟩) :
  Calls Tryz.prog 35 #[.slice A0 l0.length c0, .string a1, .bool a2] w fun e w' => ∃ v0_ : Value, e = .returned (.tuple #[v0_, .agg #[.int .i64 r2, .int .i64 r3]]) ∧ Kd.R k41 41 w' w.heap.size (fun _ => True) v0_ r1 ∧ Below w.heap.size w w' := by
 unfold parse_read.f at h
 have h := Option.some.inj h
 have hsz : a1.data.toList.length = a1.size := size_eq a1
 obtain ⟨k, hk⟩ := (words_ev a1).rounds
 have hwl := words_len a1.data.toList
 unfold readL at h
 obtain ⟨ws, er, a, hw⟩ : ∃ ws er a, wordsL a1.data.toList = (ws, er, a) := ⟨_, _, _, rfl⟩
 rw [hw] at h hk hwl
 rw [hsz] at h
 by_cases h0 : chk l0 = 0
 ·rw [if_pos h0] at h
  by_cases h1 : er = 0
  ·subst h1
   by_cases h2 : a = 0
   ·subst h2
    rw [if_pos ⟨rfl, rfl⟩] at h
    exact run_all a2 A0 c0 l0 a1 w hr0 hc0 h0 k ws hk hwl HT (r1, r2, r3) h
   ·rw [if_neg (fun hh => h2 hh.2)] at h
    cases h
    exact (read_words2 A0 c0 l0 a1 a2 w hr0 hc0 h0 k ws a hk h2 HT).mono fun e w' ⟨he, hb⟩ => ⟨_, he, Kd.R_nil _ _ _ _ _, hb⟩
  ·rw [if_neg (fun hh => h1 hh.1)] at h
   cases h
   exact (read_words1 A0 c0 l0 a1 a2 w hr0 hc0 h0 k ws er a hk h1 HT).mono fun e w' ⟨he, hb⟩ => ⟨_, he, Kd.R_nil _ _ _ _ _, hb⟩
 ·rw [if_neg h0] at h
  cases h
  exact (read_names A0 c0 l0 a1 a2 w hr0 hc0 h0).mono fun e w' ⟨he, hb⟩ => ⟨_, he, Kd.R_nil _ _ _ _ _, hb⟩
end Go.Proofs.YtaogoabnidbbpaaGreatDoor.PText
namespace Go.Proofs.YtaogoabnidbbpaaGreatDoor.PText
open Go.RowKit Go.Proofs.YtaogoabnidbbpaaGreatDoorW.PrintWords Go.Proofs.YtaogoabnidbbpaaGreatDoorW.PrintLast Go.Proofs.YtaogoabnidbbpaaGreatDoorW.PrintMore
set_option linter.unusedVariables false
set_option linter.unusedSimpArgs false
attribute [local go_sem] max2_int min2_int max_two min_two max_three min_three max_four min_four
def parse_Formula.f (l0 : List ByteArray) (a1 : ByteArray) : Option ((List (S41)) × Int × Int) := (parse_read.f l0 a1 false).bind fun bt270 => (some (bt270.1, bt270.2.1, bt270.2.2))
set_option maxHeartbeats 8000000 in
set_option maxRecDepth 100000 in
theorem parse_Formula.calls (A0 : Option Addr) (c0 : Nat) (l0 : List ByteArray) (a1 : ByteArray) (r1 : List (S41)) (r2 : Int) (r3 : Int) (w : World) (hr0 : Kd.C Kd.string w A0 l0.length l0) (hc0 : l0.length ≤ c0) (h : parse_Formula.f l0 a1 = some (r1, r2, r3)) (HT : Aside0 (Laid w) := by exact ⟨Laid.later HT.out (by repeat (first | (with_reducible first | exact HB.out | apply below_alloc | apply pw_below_drewN | apply below_drew1) | exact HB.out | (refine below_set ?_ (Aside0.out (by assumption)))))⟩) :
  Calls Tryz.prog 21 #[.slice A0 l0.length c0, .string a1] w fun e w' => ∃ v0_ : Value, e = .returned (.tuple #[v0_, .agg #[.int .i64 r2, .int .i64 r3]]) ∧ Kd.R k41 41 w' w.heap.size (fun _ => True) v0_ r1 ∧ Below w.heap.size w w' := by
 have hu31 := Tryz.underlying31
 have HR0 := Aside0.mk hr0
 have HC0 := Aside0.mk hc0
 clear hr0 hc0
 have HB := Aside0.mk (Below.refl w.heap.size w)
 have H : ((parse_read.f l0 a1 false).bind fun bt270 => (some (bt270.1, bt270.2.1, bt270.2.2))) = some (r1, r2, r3) := h
 clear h
 replace H := Option.bind_eq_some_iff.mp H
 obtain ⟨⟨t270, t273, t274⟩, A30, H⟩ := H
 replace H : (some (t270, t273, t274)) = some (r1, r2, r3) := H
 have A3 := Aside0.mk A30
 clear A30
 simp only [Option.some.injEq, Prod.mk.injEq] at H
 obtain ⟨rfl, rfl, rfl⟩ := H
 go_enter Tryz.func21, Tryz.ntmps21
 go_wp2_with (first | ((with_reducible refine gate_dst (N := 5) rfl ?_); refine box_event ?hg (N := 5) ?hd (cs := #[.int .i64 0, .int .i64 0]) (t := 31) ?hr ?_; (case hd => rfl); (case hg => rfl); (case hr => first | (go_simp; done) | (go_simp; rfl)); intro gb269 hg w4 hbox hb; have n0_ := Aside0.mk (below_step (by repeat (first | (with_reducible first | exact HB.out | apply below_alloc | apply pw_below_drewN | apply below_drew1) | exact HB.out)) hb); have n1_ := Aside0.mk (hbox); have n2_ := Aside0.mk ((by rw [hg]; exact (below_size (by repeat (first | (with_reducible first | exact HB.out | apply below_alloc | apply pw_below_drewN | apply below_drew1) | exact HB.out))) : w.heap.size ≤ gb269)); have n3_ := Aside0.mk ((by rw [hg]; exact (below_size (by repeat (first | (with_reducible first | exact HB.out | apply below_alloc | apply pw_below_drewN | apply below_drew1) | exact HB.out))) : w.heap.size ≤ gb269)); clear HB; have HB := n0_; have BK269 := n1_; have GW269 := n2_; have GE269 := n3_; clear n0_ n1_ n2_ n3_; clear hb hbox hg) | ((with_reducible refine gate_callee (f := 35) rfl ?_); refine goesL_ (some 8) rfl rfl Tryz.func35 (by kernel_rfl) rfl #[.slice A0 l0.length c0, .string a1, .bool false] rfl (by (try simp only [List.map_toArray, List.map_cons, List.map_nil]); first | done | rfl | (simp only [List.length_drop, List.length_take]; rfl)) ?_; (with_reducible refine (parse_read.calls _ _ l0 a1 false t270 t273 t274 _ ?side1 ?side2 A3.out).mono ?_); (case side1 => repeat (first | exact (Kd.C_below HR0.out HB.out) | (with_reducible refine Kd.C_alloc ?_ _) | (with_reducible refine Kd.C_drewN ?_ _) | (with_reducible refine Kd.C_drew ?_))); (case side2 => exact HC0.out); rintro e w5 ⟨v271, rfl, ho0, hb⟩; refine ⟨_, rfl, ?_⟩; have n0_ := Aside0.mk (Kd.R_lower ho0 (below_size (by repeat (first | (with_reducible first | exact HB.out | apply below_alloc | apply pw_below_drewN | apply below_drew1 | refine below_set ?_ GE269.out) | exact HB.out)))); have n1_ := Aside0.mk (blk_below (g := gb269) (o := .cells #[.int .i64 0, .int .i64 0] 31 (0, 0)) (by (with_reducible repeat (first | refine blk_drewN ?_ _ | refine blk_drew ?_ | refine blk_alloc ?_ _)); exact BK269.out) hb); have n2_ := Aside0.mk (below_step (by repeat (first | (with_reducible first | exact HB.out | apply below_alloc | apply pw_below_drewN | apply below_drew1 | refine below_set ?_ GE269.out) | exact HB.out)) hb); clear BK269; clear HB; have HO272 := n0_; have BK269 := n1_; have HB := n2_; clear n0_ n1_ n2_; (try clear hb); (try clear hb2); (try clear hk); (try clear hi); (try clear ho0); have hcz6_0 : w5.cell? ⟨gb269, 0, none⟩ = some (.int .i64 0) := (blk_cell BK269.out 0).trans rfl; have hcz6_1 : w5.cell? ⟨gb269, 1, none⟩ = some (.int .i64 0) := (blk_cell BK269.out 1).trans rfl; have hfz6_0 := blk_frozen BK269.out 0; have hfz6_1 := blk_frozen BK269.out 1))
 refine bodyPost_ret (results_tc rfl _ _ gb269 31 #[.int .i64 t273, .int .i64 t274] (0, 0) _ rfl (by (with_reducible repeat (first | refine blk_drewN ?_ _ | refine blk_drew ?_ | refine blk_alloc ?_ _)); refine blk_put (cs := #[.int .i64 t273, .int .i64 0]) ?_ 1 _ rfl; (with_reducible repeat (first | refine blk_drewN ?_ _ | refine blk_drew ?_ | refine blk_alloc ?_ _)); refine blk_put (cs := #[.int .i64 0, .int .i64 0]) ?_ 0 _ rfl; (with_reducible repeat (first | refine blk_drewN ?_ _ | refine blk_drew ?_ | refine blk_alloc ?_ _)); exact BK269.out) Tryz.underlying31 rfl (by kernel_rfl)) rfl ?_
 exact ⟨_, by first | rfl | (simp [errW_none, errW_some] <;> rfl) | (simp [*, errW_none, errW_some] <;> rfl), by (with_reducible repeat (first | apply Kd.R_alloc | apply Kd.R_drewN | apply Kd.R_drew)); exact Kd.R_mono (Kd.R_far (p := ⟨gb269, 1, none⟩) (Kd.R_far (p := ⟨gb269, 0, none⟩) (Kd.R_types HO272.out BK269.out (by decide)) (fun _ hk => hk.2) (.int .i64 t273)) (fun _ hk => hk.2) (.int .i64 t274)) (fun _ hk => trivial), by repeat (first | (with_reducible first | exact HB.out | apply below_alloc | apply pw_below_drewN | apply below_drew1 | refine below_set ?_ GE269.out) | exact HB.out)⟩
end Go.Proofs.YtaogoabnidbbpaaGreatDoor.PText
