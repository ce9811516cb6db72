/- Texts of this work merged into one file, what the law does not need left out: TextRead; TextReadRun; TextReadAll; PTextF. Conditions stand in each law. -/
import Derived.Below
import Derived.Deep.Draws
import Derived.Deep.AppendLies
import Derived.Maps.AppendAt
import Derived.OwnWalk
import Derived.Laws.BytesArg
import Derived.Laws.MakeOwn
import Derived.Laws.OwnMore
import Derived.Deep.OwnRows
import Derived.Tactics
import Derived.Lib.ConvBytes
import Derived.Laws.Slices
import Derived.WalkKit
import Derived.KernelRfl
import Derived.RowKit3
import Derived.Deep.LoopGhost
import Derived.Deep.QuietTactic
import Derived.BigQuiet
import Derived.WideLaws
import Derived.Deep.DeepCutAuto
import Derived.Deep.CutBlock
import Derived.Deep.RegionHeld3
import Derived.Laws.Rows
import Derived.Lib.AppendStr
import Derived.ArgAppend
import Derived.Laws.IdiomCopy
import Derived.RowKit
import Derived.OrdersHeld
import Derived.Laws.BitsLemmas
import Derived.Laws.StructEq
import Derived.Test.YtaogoabnidbbpaaDoorProg
import Derived.Shelf.Strings.Builder1
import Derived.Shelf.Strings.BuilderF
import Derived.Shelf.Strings.BuilderK
import Derived.Shelf.Strings.Fields
import Derived.Lib.SmallJoins
import Derived.BigCall
import Derived.WalkMore
import Derived.Lib.OthersKept
import Derived.Lib.FrozenHead
import Derived.Maps.OwnOps
import Derived.Maps.Views
import Derived.WalkSmall
import Derived.Defers
import Derived.Recover
import Derived.Test.YtaogoabnidbbpaaDoorSk1
import Derived.Test.YtaogoabnidbbpaaDoorSk2
import Derived.Test.YtaogoabnidbbpaaDoorSk3
import Derived.Test.YtaogoabnidbbpaaDoorSk4
import Derived.Test.YtaogoabnidbbpaaDoorSk5
import Derived.Test.YtaogoabnidbbpaaDoorSk6
import Derived.Test.YtaogoabnidbbpaaDoorSk7
import Derived.Test.YtaogoabnidbbpaaDoorSk8
import Derived.Test.YtaogoabnidbbpaaDoorSk10
import Derived.Test.YtaogoabnidbbpaaDoorSk11
import Derived.Test.YtaogoabnidbbpaaDoorSk12
import Derived.Test.YtaogoabnidbbpaaDoorSk13
import Derived.Test.YtaogoabnidbbpaaDoorSk14
import Derived.Test.YtaogoabnidbbpaaDoorSk16
import Derived.Test.YtaogoabnidbbpaaDoorSk18
import Derived.Test.YtaogoabnidbbpaaDoorSk19
import Derived.Test.YtaogoabnidbbpaaDoorSk21
import Derived.Test.YtaogoabnidbbpaaDoorSk22
import Derived.Test.YtaogoabnidbbpaaDoorSk23
import Derived.Test.YtaogoabnidbbpaaDoorSk24
import Derived.Test.YtaogoabnidbbpaaDoorSk25
import Derived.Test.YtaogoabnidbbpaaDoorSk26
import Derived.Test.YtaogoabnidbbpaaDoorSk27
/-! TextRead -/
namespace Go.Proofs.YtaogoabnidbbpaaDoor.PText
open Go.RowKit Go.Proofs.YtaogoabnidbbpaaDoorW.PrintWords Go.Proofs.YtaogoabnidbbpaaDoorW.PrintLast Go.Proofs.YtaogoabnidbbpaaDoorW.PrintMore Go.Proofs.YtaogoabnidbbpaaDoorW.Aid
set_option linter.unusedVariables false
/-- The two variables of the results, in a world: what they hold. -/
def Cells (w0 : World) (a b c : Value) (W : World) : Prop := W.heap[w0.heap.size]? = some (.cells #[a] 46 (0, 0)) ∧ W.heap[w0.heap.size + 1]? = some (.cells #[b, c] 26 (0, 0)) ∧ Below w0.heap.size w0 W
theorem Cells.below {w0 W W2 : World} {a b c : Value} (h : Cells w0 a b c W) (hb : Below W.heap.size W W2) : Cells w0 a b c W2 := ⟨blk_below h.1 hb, blk_below h.2.1 hb, below_step h.2.2 hb⟩
theorem Cells.start (w0 : World) (a b c : Value) : Cells w0 a b c ((w0.alloc (.cells #[a] 46 (0, 0))).alloc (.cells #[b, c] 26 (0, 0))) := ⟨blk_alloc (blk_new _ _) _, blk_new1 _ _ _, below_alloc (below_alloc (Below.refl _ _) _) _⟩
theorem Cells.put0 {w0 W : World} {a b c : Value} (h : Cells w0 a b c W) (u : Value) : Cells w0 u b c (W.setCell ⟨w0.heap.size, 0, none⟩ u) := ⟨blk_put h.1 0 u rfl, blk_far h.2.1 (by show _ ≠ w0.heap.size; omega) u, below_set h.2.2 (Nat.le_refl _)⟩
theorem Cells.put1 {w0 W : World} {a b c : Value} (h : Cells w0 a b c W) (u : Value) : Cells w0 a u c (W.setCell ⟨w0.heap.size + 1, 0, none⟩ u) := ⟨blk_far h.1 (by show _ ≠ w0.heap.size + 1; omega) u, blk_put h.2.1 0 u rfl, below_set h.2.2 (Nat.le_succ _)⟩
theorem Cells.put2 {w0 W : World} {a b c : Value} (h : Cells w0 a b c W) (u : Value) : Cells w0 a b u (W.setCell ⟨w0.heap.size + 1, 1, none⟩ u) := ⟨blk_far h.1 (by show _ ≠ w0.heap.size + 1; omega) u, blk_put h.2.1 1 u rfl, below_set h.2.2 (Nat.le_succ _)⟩
theorem Cells.drew {w0 W : World} {a b c : Value} (h : Cells w0 a b c W) : Cells w0 a b c W.drew := ⟨blk_drew h.1, blk_drew h.2.1, below_drew1 h.2.2⟩
set_option maxRecDepth 100000 in
theorem read_results {w W : World} {a b c : Value} (h : Cells w a b c W) (tmps : Array Value) (h6 : (tmps[6]?).getD undef = .pointer (some ⟨w.heap.size, 0, none⟩)) (h7 : (tmps[7]?).getD undef = .pointer (some ⟨w.heap.size + 1, 0, none⟩)) :
    (results Tryd.f53 tmps).run Tryd.prog W = .ok (.tuple #[a, .agg #[b, c]]) W := by
  have p0 : W.cell? ⟨w.heap.size, 0, none⟩ = some a := (blk_cell h.1 0).trans rfl
  have q0 : W.cell? ⟨w.heap.size + 1, 0, none⟩ = some b := (blk_cell h.2.1 0).trans rfl
  have q1 : W.cell? ⟨w.heap.size + 1, 1, none⟩ = some c := (blk_cell h.2.1 1).trans rfl
  simp [results, Tryd.results53, go_sem, h6, h7, p0, q0, q1]
set_option maxHeartbeats 8000000 in
set_option maxRecDepth 100000 in
theorem read_names (A : Option Addr) (c : Nat) (names : List ByteArray) (s : ByteArray) (path : Bool) (w : World) (hr : Kd.C Kd.string w A names.length names) (hc : names.length ≤ c) (h0 : chk names ≠ 0) :
    Calls Tryd.prog 53 #[.slice A names.length c, .string s, .bool path] w fun e w' => e = .returned (.tuple #[.slice none 0 0, .agg #[.int .i64 (chk names), .int .i64 (-1)]]) ∧ Below w.heap.size w w' := by
  have HR := Aside0.mk hr
  have c1 : (chk names == 0) = false := beq_eq_false_iff_ne.2 h0
  have c2 : (chk names != 0) = true := bne_iff_ne.2 h0
  clear hr hc h0
  go_enter_defers Tryd.func53, Tryd.ntmps53
  go_wp2_with fail
  refine (check_calls A c names _ (Kd.C_alloc (Kd.C_alloc HR.out _) _)).mono ?_
  rintro e w3 ⟨rfl, hb⟩
  have HC := Aside0.mk ((Cells.start w _ _ _).below hb)
  clear hb HR
  have p0 : w3.cell? ⟨w.heap.size, 0, none⟩ = some (.slice none 0 0) := (blk_cell HC.out.1 0).trans rfl
  have q0 : w3.cell? ⟨w.heap.size + 1, 0, none⟩ = some (.int .i64 0) := (blk_cell HC.out.2.1 0).trans rfl
  have q1 : w3.cell? ⟨w.heap.size + 1, 1, none⟩ = some (.int .i64 0) := (blk_cell HC.out.2.1 1).trans rfl
  have fp := blk_frozen HC.out.1 0
  have fq := blk_frozen HC.out.2.1 0
  have fq1 := blk_frozen HC.out.2.1 1
  go_wp2
  have hC := (((HC.out.put0 (.slice none 0 0)).put1 (.int .i64 (chk names))).put2 (.int .i64 (-1)))
  exact ⟨_, read_results hC _ rfl rfl, rfl, hC.2.2⟩
set_option maxHeartbeats 8000000 in
set_option maxRecDepth 100000 in
theorem read_words1 (A : Option Addr) (c : Nat) (names : List ByteArray) (s : ByteArray) (path : Bool) (w : World) (hr : Kd.C Kd.string w A names.length names) (hc : names.length ≤ c) (h0 : chk names = 0) (k : Nat) (ws : List Wd) (er a : Int) (hk : lexis_Words.f k s = some (ws, er, a)) (hf : ¬ er = 0) (HT : Aside0 (Laid w)) :
    Calls Tryd.prog 53 #[.slice A names.length c, .string s, .bool path] w fun e w' => e = .returned (.tuple #[.slice none 0 0, .agg #[.int .i64 er, .int .i64 a]]) ∧ Below w.heap.size w w' := by
  have HR := Aside0.mk hr
  have HK := Aside0.mk hk
  have c1 : (chk names == 0) = true := beq_iff_eq.2 h0
  have c2 : (chk names != 0) = false := by simp [h0]
  have c3 := eq_false hf
  have c4 : decide (er = 0) = false := decide_eq_false hf
  have c5 : (er == 0) = false := beq_eq_false_iff_ne.2 hf
  clear hr hc h0 hk
  go_enter_defers Tryd.func53, Tryd.ntmps53
  go_wp2_with fail
  refine (check_calls A c names _ (Kd.C_alloc (Kd.C_alloc HR.out _) _)).mono ?_
  rintro e w3 ⟨rfl, hb⟩
  have HC := Aside0.mk ((Cells.start w _ _ _).below hb)
  clear hb HR
  go_wp2_with fail
  refine (lexis_Words.calls k s ws er a _ HK.out ⟨Laid.later HT.out HC.out.2.2⟩).mono ?_
  rintro e w4 ⟨vL, rfl, hr, hb⟩
  have HC4 := Aside0.mk (HC.out.below hb)
  clear hb hr HC
  have p0 : w4.cell? ⟨w.heap.size, 0, none⟩ = some (.slice none 0 0) := (blk_cell HC4.out.1 0).trans rfl
  have q0 : w4.cell? ⟨w.heap.size + 1, 0, none⟩ = some (.int .i64 0) := (blk_cell HC4.out.2.1 0).trans rfl
  have q1 : w4.cell? ⟨w.heap.size + 1, 1, none⟩ = some (.int .i64 0) := (blk_cell HC4.out.2.1 1).trans rfl
  have fp := blk_frozen HC4.out.1 0
  have fq := blk_frozen HC4.out.2.1 0
  have fq1 := blk_frozen HC4.out.2.1 1
  go_wp2
  go_region
  have hC := ((((HC4.out.put1 (.int .i64 er)).put2 (.int .i64 a)).put0 (.slice none 0 0)).put1 (.int .i64 er)).put2 (.int .i64 a)
  go_wp2
  exact ⟨_, read_results hC.drew _ rfl rfl, rfl, hC.drew.2.2⟩
set_option maxHeartbeats 8000000 in
set_option maxRecDepth 100000 in
theorem read_words2 (A : Option Addr) (c : Nat) (names : List ByteArray) (s : ByteArray) (path : Bool) (w : World) (hr : Kd.C Kd.string w A names.length names) (hc : names.length ≤ c) (h0 : chk names = 0) (k : Nat) (ws : List Wd) (a : Int) (hk : lexis_Words.f k s = some (ws, 0, a)) (hf : ¬ a = 0) (HT : Aside0 (Laid w)) :
    Calls Tryd.prog 53 #[.slice A names.length c, .string s, .bool path] w fun e w' => e = .returned (.tuple #[.slice none 0 0, .agg #[.int .i64 0, .int .i64 a]]) ∧ Below w.heap.size w w' := by
  have HR := Aside0.mk hr
  have HK := Aside0.mk hk
  have c1 : (chk names == 0) = true := beq_iff_eq.2 h0
  have c2 : (chk names != 0) = false := by simp [h0]
  have c3 := eq_false hf
  have c4 : decide (a = 0) = false := decide_eq_false hf
  have c5 : (a == 0) = false := beq_eq_false_iff_ne.2 hf
  clear hr hc h0 hk
  go_enter_defers Tryd.func53, Tryd.ntmps53
  go_wp2_with fail
  refine (check_calls A c names _ (Kd.C_alloc (Kd.C_alloc HR.out _) _)).mono ?_
  rintro e w3 ⟨rfl, hb⟩
  have HC := Aside0.mk ((Cells.start w _ _ _).below hb)
  clear hb HR
  go_wp2_with fail
  refine (lexis_Words.calls k s ws 0 a _ HK.out ⟨Laid.later HT.out HC.out.2.2⟩).mono ?_
  rintro e w4 ⟨vL, rfl, hr, hb⟩
  have HC4 := Aside0.mk (HC.out.below hb)
  clear hb hr HC
  have p0 : w4.cell? ⟨w.heap.size, 0, none⟩ = some (.slice none 0 0) := (blk_cell HC4.out.1 0).trans rfl
  have q0 : w4.cell? ⟨w.heap.size + 1, 0, none⟩ = some (.int .i64 0) := (blk_cell HC4.out.2.1 0).trans rfl
  have q1 : w4.cell? ⟨w.heap.size + 1, 1, none⟩ = some (.int .i64 0) := (blk_cell HC4.out.2.1 1).trans rfl
  have fp := blk_frozen HC4.out.1 0
  have fq := blk_frozen HC4.out.2.1 0
  have fq1 := blk_frozen HC4.out.2.1 1
  go_wp2
  go_region
  have hC := ((((HC4.out.put1 (.int .i64 0)).put2 (.int .i64 a)).put0 (.slice none 0 0)).put1 (.int .i64 0)).put2 (.int .i64 a)
  go_wp2
  exact ⟨_, read_results hC.drew _ rfl rfl, rfl, hC.drew.2.2⟩
end Go.Proofs.YtaogoabnidbbpaaDoor.PText
/-! TextReadRun -/
namespace Go.Proofs.YtaogoabnidbbpaaDoor.PText
open Go.RowKit Go.Proofs.YtaogoabnidbbpaaDoorW.PrintWords Go.Proofs.YtaogoabnidbbpaaDoorW.PrintLast Go.Proofs.YtaogoabnidbbpaaDoorW.PrintMore Go.Proofs.YtaogoabnidbbpaaDoorW.Aid
set_option linter.unusedVariables false
/-- The reader as it is made. -/
theorem RdAt.start (w0 : World) (g : Nat) (hg : g = w0.heap.size) (nm : Option Addr) (nn cn : Nat) (last : Int) (A : Option Addr) (c : Nat) (ws : List Wd) (hC : Kd.C k31 w0 A ws.length ws) (hc : ws.length ≤ c) :
    RdAt w0 g nm nn cn last (w0.alloc (.cells #[.slice nm nn cn, .slice A ws.length c, .int .i64 last, .slice none 0 0] 98 (0, 0))) ⟨ws, []⟩ := by
  subst hg
  exact ⟨A, c, .slice none 0 0, blk_new _ _, Nat.le_refl _, hC, hc, Kd.R_nil _ _ _ _ _, below_alloc (Below.refl _ _) _⟩
/-- The words, behind the fault's store. -/
theorem words_kept {w w3 w4 : World} {v : Value} {ws : List Wd} (hr : Kd.R k31 31 w4 w3.heap.size (fun _ => True) v ws) (hlt : w.heap.size + 1 < w3.heap.size) (x y : Value) :
    Kd.R k31 31 ((w4.setCell ⟨w.heap.size + 1, 0, none⟩ x).setCell ⟨w.heap.size + 1, 1, none⟩ y) w3.heap.size (fun _ => True) v ws := by
  have h1 := Kd.R_bound hr
  have h2 := Kd.R_far (p := ⟨w.heap.size + 1, 0, none⟩) h1 (fun k hk => by show k ≠ w.heap.size + 1; have := hk.2.1; omega) x
  have h3 := Kd.R_far (p := ⟨w.heap.size + 1, 1, none⟩) h2 (fun k hk => by show k ≠ w.heap.size + 1; have := hk.2.1; omega) y
  exact Kd.R_mono h3 (fun _ _ => trivial)
/-- The tokens, behind the results' stores. -/
theorem toks_kept {w w5 W W2 : World} {v : Value} {l : List Tk} {ok : Nat → Prop} (hr : Kd.R k55 55 W w5.heap.size ok v l) (hlt : w.heap.size + 1 < w5.heap.size) (hb : Below W.heap.size W W2) (x y z : Value) :
    Kd.R k55 55 (((W2.setCell ⟨w.heap.size, 0, none⟩ x).setCell ⟨w.heap.size + 1, 0, none⟩ y).setCell ⟨w.heap.size + 1, 1, none⟩ z) w.heap.size (fun _ => True) v l := by
  have h1 := Kd.R_bound (Kd.R_below hr hb)
  have h2 := Kd.R_far (p := ⟨w.heap.size, 0, none⟩) h1 (fun k hk => by show k ≠ w.heap.size; have := hk.2.1; omega) x
  have h3 := Kd.R_far (p := ⟨w.heap.size + 1, 0, none⟩) h2 (fun k hk => by show k ≠ w.heap.size + 1; have := hk.2.1; omega) y
  have h4 := Kd.R_far (p := ⟨w.heap.size + 1, 1, none⟩) h3 (fun k hk => by show k ≠ w.heap.size + 1; have := hk.2.1; omega) z
  exact Kd.R_lower (Kd.R_mono h4 (fun _ _ => trivial)) (by omega)
set_option maxHeartbeats 8000000 in
set_option maxRecDepth 100000 in
theorem run_iff_thrown (A : Option Addr) (c : Nat) (names : List ByteArray) (s : ByteArray) (w : World) (hr : Kd.C Kd.string w A names.length names) (hc : names.length ≤ c) (h0 : chk names = 0) (hl8 : names.length ≤ 8) (k : Nat) (ws : List Wd) (hk : lexis_Words.f k s = some (ws, 0, 0)) (hws : ws.length ≤ 4096) (er at_ : Int) (he : run names s.size (roundsFor ws) (ntOf false) ⟨ws, []⟩ = some (.stop er at_)) (HT : Aside0 (Laid w)) :
    Calls Tryd.prog 53 #[.slice A names.length c, .string s, .bool false] w fun e w' => ∃ v0_ : Value, e = .returned (.tuple #[v0_, .agg #[.int .i64 er, .int .i64 at_]]) ∧ Kd.R k55 55 w' w.heap.size (fun _ => True) v0_ [] ∧ Below w.heap.size w w' := by
  have HR := Aside0.mk hr
  have HK := Aside0.mk hk
  have HCN := Aside0.mk hc
  have HL8 := Aside0.mk hl8
  have HWS := Aside0.mk hws
  have HE := Aside0.mk he
  have c1 : (chk names == 0) = true := beq_iff_eq.2 h0
  have c2 : (chk names != 0) = false := by simp [h0]
  have hmf : ∀ (fn : Fn) (first cap : Array Value) (w : World), (Instr.makeFunc fn first cap).run Tryd.prog w = .ok (.func fn first cap) w := fun _ _ _ _ => rfl
  clear hr hc h0 hk hl8 hws he
  go_enter_defers Tryd.func53, Tryd.ntmps53
  go_wp2_with fail
  refine (check_calls A c names _ (Kd.C_alloc (Kd.C_alloc HR.out _) _)).mono ?_
  rintro e w3 ⟨rfl, hb⟩
  have HC := Aside0.mk ((Cells.start w _ _ _).below hb)
  have hlt3 := Aside0.mk (blk_lt HC.out.2.1)
  clear hb
  go_wp2_with fail
  refine (lexis_Words.calls k s ws 0 0 _ HK.out ⟨Laid.later HT.out HC.out.2.2⟩).mono ?_
  rintro e w4 ⟨vL, rfl, hr, hb⟩
  have HC4 := Aside0.mk (HC.out.below hb)
  obtain ⟨Aw, cw, rfl⟩ := Kd.R_slice hr
  have HWR := Aside0.mk (words_kept hr hlt3.out (.int .i64 0) (.int .i64 0))
  have hlt4 := Aside0.mk (blk_lt HC4.out.2.1)
  clear hb hr HC
  have p0 : w4.cell? ⟨w.heap.size, 0, none⟩ = some (.slice none 0 0) := (blk_cell HC4.out.1 0).trans rfl
  have q0 : w4.cell? ⟨w.heap.size + 1, 0, none⟩ = some (.int .i64 0) := (blk_cell HC4.out.2.1 0).trans rfl
  have q1 : w4.cell? ⟨w.heap.size + 1, 1, none⟩ = some (.int .i64 0) := (blk_cell HC4.out.2.1 1).trans rfl
  have fp := blk_frozen HC4.out.1 0
  have fq := blk_frozen HC4.out.2.1 0
  have fq1 := blk_frozen HC4.out.2.1 1
  obtain ⟨w5, hw5⟩ : ∃ w5, w5 = (w4.setCell ⟨w.heap.size + 1, 0, none⟩ (.int .i64 0)).setCell ⟨w.heap.size + 1, 1, none⟩ (.int .i64 0) := ⟨_, rfl⟩
  have hs5 : Aside0 (w4.heap.size = w5.heap.size) := ⟨by rw [hw5]; simp⟩
  have HW5 := Aside0.mk hw5
  have HC5 : Aside0 (Cells w (.slice none 0 0) (.int .i64 0) (.int .i64 0) w5) := ⟨by rw [hw5]; exact (HC4.out.put1 (.int .i64 0)).put2 (.int .i64 0)⟩
  rw [← hw5] at HWR
  clear hw5
  have HST := Aside0.mk (RdAt.start w5 w4.heap.size hs5.out A names.length c (s.size : Int) Aw cw ws (Kd.R_reads' HWR.out).2.2 (Kd.R_reads' HWR.out).2.1)
  have HD := Aside0.mk (all_does names w5 w4.heap.size A c (s.size : Int) (Kd.C_below HR.out HC5.out.2.2) HCN.out HL8.out (roundsFor ws) (roundsFor ws) (Nat.le_refl _) .iff rfl ⟨ws, []⟩ _ HE.out (by show 0 + ws.length ≤ _; have := HWS.out; omega))
  clear HE HWR
  go_wp2_with fail
  rw [← HW5.out]
  refine (HD.out _ HST.out).mono ?_
  rintro e w6 ⟨rfl, hb⟩
  have HC6 := Aside0.mk (HC5.out.below hb)
  clear hb
  unfold thrown
  go_wp2
  refine leaves_cons (f := 66) (args := #[.pointer (some ⟨w.heap.size, 0, none⟩), .pointer (some ⟨w.heap.size + 1, 0, none⟩)]) (by simp) (by simp [go_sem]) ?_
  refine (catch_stop w.heap.size (w.heap.size + 1) er at_ _ _ _ w _ HC6.out.1 HC6.out.2.1 (by omega) (Nat.le_refl _) (Nat.le_succ _) HC6.out.2.2).mono ?_
  rintro e u' w'' ⟨rfl, rfl, h1, h2, h3⟩
  simp only [settle, List.dropWhile_nil]
  exact ⟨_, read_results ⟨h1, h2, h3⟩ _ rfl rfl, _, rfl, Kd.R_nil _ _ _ _ _, h3⟩
set_option maxHeartbeats 8000000 in
set_option maxRecDepth 100000 in
theorem run_iff_left (A : Option Addr) (c : Nat) (names : List ByteArray) (s : ByteArray) (w : World) (hr : Kd.C Kd.string w A names.length names) (hc : names.length ≤ c) (h0 : chk names = 0) (hl8 : names.length ≤ 8) (k : Nat) (ws : List Wd) (hk : lexis_Words.f k s = some (ws, 0, 0)) (hws : ws.length ≤ 4096) (r : Rd) (he : run names s.size (roundsFor ws) (ntOf false) ⟨ws, []⟩ = some (.go r)) (hw : r.ws ≠ []) (HT : Aside0 (Laid w)) :
    Calls Tryd.prog 53 #[.slice A names.length c, .string s, .bool false] w fun e w' => ∃ v0_ : Value, e = .returned (.tuple #[v0_, .agg #[.int .i64 150, .int .i64 (r.place s.size)]]) ∧ Kd.R k55 55 w' w.heap.size (fun _ => True) v0_ [] ∧ Below w.heap.size w w' := by
  have HR := Aside0.mk hr
  have HK := Aside0.mk hk
  have HCN := Aside0.mk hc
  have HL8 := Aside0.mk hl8
  have HWS := Aside0.mk hws
  have HE := Aside0.mk he
  have c1 : (chk names == 0) = true := beq_iff_eq.2 h0
  have c2 : (chk names != 0) = false := by simp [h0]
  have hmf : ∀ (fn : Fn) (first cap : Array Value) (w : World), (Instr.makeFunc fn first cap).run Tryd.prog w = .ok (.func fn first cap) w := fun _ _ _ _ => rfl
  have hwl : 0 < r.ws.length := List.length_pos_iff.2 hw
  have t1 : decide ((0 : Int) < (r.ws.length : Int)) = true := decide_eq_true (by omega)
  have t2 := eq_true (show (0 : Int) < (r.ws.length : Int) by omega)
  have t3 := eq_true hwl
  have t4 := decide_eq_true hwl
  clear hw hwl
  clear hr hc h0 hk hl8 hws he
  go_enter_defers Tryd.func53, Tryd.ntmps53
  go_wp2_with fail
  refine (check_calls A c names _ (Kd.C_alloc (Kd.C_alloc HR.out _) _)).mono ?_
  rintro e w3 ⟨rfl, hb⟩
  have HC := Aside0.mk ((Cells.start w _ _ _).below hb)
  have hlt3 := Aside0.mk (blk_lt HC.out.2.1)
  clear hb
  go_wp2_with fail
  refine (lexis_Words.calls k s ws 0 0 _ HK.out ⟨Laid.later HT.out HC.out.2.2⟩).mono ?_
  rintro e w4 ⟨vL, rfl, hr, hb⟩
  have HC4 := Aside0.mk (HC.out.below hb)
  obtain ⟨Aw, cw, rfl⟩ := Kd.R_slice hr
  have HWR := Aside0.mk (words_kept hr hlt3.out (.int .i64 0) (.int .i64 0))
  have hlt4 := Aside0.mk (blk_lt HC4.out.2.1)
  clear hb hr HC
  have p0 : w4.cell? ⟨w.heap.size, 0, none⟩ = some (.slice none 0 0) := (blk_cell HC4.out.1 0).trans rfl
  have q0 : w4.cell? ⟨w.heap.size + 1, 0, none⟩ = some (.int .i64 0) := (blk_cell HC4.out.2.1 0).trans rfl
  have q1 : w4.cell? ⟨w.heap.size + 1, 1, none⟩ = some (.int .i64 0) := (blk_cell HC4.out.2.1 1).trans rfl
  have fp := blk_frozen HC4.out.1 0
  have fq := blk_frozen HC4.out.2.1 0
  have fq1 := blk_frozen HC4.out.2.1 1
  obtain ⟨w5, hw5⟩ : ∃ w5, w5 = (w4.setCell ⟨w.heap.size + 1, 0, none⟩ (.int .i64 0)).setCell ⟨w.heap.size + 1, 1, none⟩ (.int .i64 0) := ⟨_, rfl⟩
  have hs5 : Aside0 (w4.heap.size = w5.heap.size) := ⟨by rw [hw5]; simp⟩
  have HW5 := Aside0.mk hw5
  have HC5 : Aside0 (Cells w (.slice none 0 0) (.int .i64 0) (.int .i64 0) w5) := ⟨by rw [hw5]; exact (HC4.out.put1 (.int .i64 0)).put2 (.int .i64 0)⟩
  rw [← hw5] at HWR
  clear hw5
  have HST := Aside0.mk (RdAt.start w5 w4.heap.size hs5.out A names.length c (s.size : Int) Aw cw ws (Kd.R_reads' HWR.out).2.2 (Kd.R_reads' HWR.out).2.1)
  have HD := Aside0.mk (all_does names w5 w4.heap.size A c (s.size : Int) (Kd.C_below HR.out HC5.out.2.2) HCN.out HL8.out (roundsFor ws) (roundsFor ws) (Nat.le_refl _) .iff rfl ⟨ws, []⟩ _ HE.out (by show 0 + ws.length ≤ _; have := HWS.out; omega))
  clear HE HWR
  go_wp2_with fail
  rw [← HW5.out]
  refine (HD.out _ HST.out).mono ?_
  rintro e w6 ⟨rfl, hI⟩
  have HI := Aside0.mk hI
  obtain ⟨A6, c6, vo, hb6, hg6, hC6, hc6, hR6, hB6⟩ := hI
  have HC6 := Aside0.mk (HC5.out.below hB6)
  have d1 : w6.cell? ⟨w4.heap.size, 1, none⟩ = some (.slice A6 r.ws.length c6) := (blk_cell hb6 1).trans rfl
  clear hb6 hg6 hC6 hc6 hR6 hB6
  go_wp2_with (go_at_call 69; refine (fail_calls w5 w4.heap.size A names.length c (s.size : Int) r 150 _ HI.out).mono ?_; rintro e w7 ⟨rfl, hb⟩; have HC7 := Aside0.mk (HC5.out.below hb); unfold thrown)
  refine leaves_cons (f := 66) (args := #[.pointer (some ⟨w.heap.size, 0, none⟩), .pointer (some ⟨w.heap.size + 1, 0, none⟩)]) (by simp) (by simp [go_sem]) ?_
  refine (catch_stop w.heap.size (w.heap.size + 1) 150 (r.place s.size) _ _ _ w _ HC7.out.1 HC7.out.2.1 (by omega) (Nat.le_refl _) (Nat.le_succ _) HC7.out.2.2).mono ?_
  rintro e u' w'' ⟨rfl, rfl, h1, h2, h3⟩
  simp only [settle, List.dropWhile_nil]
  exact ⟨_, read_results ⟨h1, h2, h3⟩ _ rfl rfl, _, rfl, Kd.R_nil _ _ _ _ _, h3⟩
set_option maxHeartbeats 8000000 in
set_option maxRecDepth 100000 in
theorem run_iff_bad (A : Option Addr) (c : Nat) (names : List ByteArray) (s : ByteArray) (w : World) (hr : Kd.C Kd.string w A names.length names) (hc : names.length ≤ c) (h0 : chk names = 0) (hl8 : names.length ≤ 8) (k : Nat) (ws : List Wd) (hk : lexis_Words.f k s = some (ws, 0, 0)) (hws : ws.length ≤ 4096) (r : Rd) (he : run names s.size (roundsFor ws) (ntOf false) ⟨ws, []⟩ = some (.go r)) (hc1 : chkT r.out false ≠ 0) (hw : r.ws = []) (HT : Aside0 (Laid w)) :
    Calls Tryd.prog 53 #[.slice A names.length c, .string s, .bool false] w fun e w' => ∃ v0_ : Value, e = .returned (.tuple #[v0_, .agg #[.int .i64 (chkT r.out false), .int .i64 (-1)]]) ∧ Kd.R k55 55 w' w.heap.size (fun _ => True) v0_ [] ∧ Below w.heap.size w w' := by
  have HR := Aside0.mk hr
  have HK := Aside0.mk hk
  have HCN := Aside0.mk hc
  have HL8 := Aside0.mk hl8
  have HWS := Aside0.mk hws
  have HE := Aside0.mk he
  have c1 : (chk names == 0) = true := beq_iff_eq.2 h0
  have c2 : (chk names != 0) = false := by simp [h0]
  have hmf : ∀ (fn : Fn) (first cap : Array Value) (w : World), (Instr.makeFunc fn first cap).run Tryd.prog w = .ok (.func fn first cap) w := fun _ _ _ _ => rfl
  have hwl : Aside0 (r.ws.length = 0) := ⟨by rw [hw]; rfl⟩
  have c3 : (chkT r.out false == 0) = false := beq_eq_false_iff_ne.2 hc1
  have c4 : (chkT r.out false != 0) = true := bne_iff_ne.2 hc1
  obtain ⟨kc, hkc⟩ := (Check_ev2 r.out).rounds
  have HKC := Aside0.mk hkc
  clear hw hc1 hkc
  clear hr hc h0 hk hl8 hws he
  go_enter_defers Tryd.func53, Tryd.ntmps53
  go_wp2_with fail
  refine (check_calls A c names _ (Kd.C_alloc (Kd.C_alloc HR.out _) _)).mono ?_
  rintro e w3 ⟨rfl, hb⟩
  have HC := Aside0.mk ((Cells.start w _ _ _).below hb)
  have hlt3 := Aside0.mk (blk_lt HC.out.2.1)
  clear hb
  go_wp2_with fail
  refine (lexis_Words.calls k s ws 0 0 _ HK.out ⟨Laid.later HT.out HC.out.2.2⟩).mono ?_
  rintro e w4 ⟨vL, rfl, hr, hb⟩
  have HC4 := Aside0.mk (HC.out.below hb)
  obtain ⟨Aw, cw, rfl⟩ := Kd.R_slice hr
  have HWR := Aside0.mk (words_kept hr hlt3.out (.int .i64 0) (.int .i64 0))
  have hlt4 := Aside0.mk (blk_lt HC4.out.2.1)
  clear hb hr HC
  have p0 : w4.cell? ⟨w.heap.size, 0, none⟩ = some (.slice none 0 0) := (blk_cell HC4.out.1 0).trans rfl
  have q0 : w4.cell? ⟨w.heap.size + 1, 0, none⟩ = some (.int .i64 0) := (blk_cell HC4.out.2.1 0).trans rfl
  have q1 : w4.cell? ⟨w.heap.size + 1, 1, none⟩ = some (.int .i64 0) := (blk_cell HC4.out.2.1 1).trans rfl
  have fp := blk_frozen HC4.out.1 0
  have fq := blk_frozen HC4.out.2.1 0
  have fq1 := blk_frozen HC4.out.2.1 1
  obtain ⟨w5, hw5⟩ : ∃ w5, w5 = (w4.setCell ⟨w.heap.size + 1, 0, none⟩ (.int .i64 0)).setCell ⟨w.heap.size + 1, 1, none⟩ (.int .i64 0) := ⟨_, rfl⟩
  have hs5 : Aside0 (w4.heap.size = w5.heap.size) := ⟨by rw [hw5]; simp⟩
  have HW5 := Aside0.mk hw5
  have HC5 : Aside0 (Cells w (.slice none 0 0) (.int .i64 0) (.int .i64 0) w5) := ⟨by rw [hw5]; exact (HC4.out.put1 (.int .i64 0)).put2 (.int .i64 0)⟩
  rw [← hw5] at HWR
  clear hw5
  have HST := Aside0.mk (RdAt.start w5 w4.heap.size hs5.out A names.length c (s.size : Int) Aw cw ws (Kd.R_reads' HWR.out).2.2 (Kd.R_reads' HWR.out).2.1)
  have HD := Aside0.mk (all_does names w5 w4.heap.size A c (s.size : Int) (Kd.C_below HR.out HC5.out.2.2) HCN.out HL8.out (roundsFor ws) (roundsFor ws) (Nat.le_refl _) .iff rfl ⟨ws, []⟩ _ HE.out (by show 0 + ws.length ≤ _; have := HWS.out; omega))
  clear HE HWR
  go_wp2_with fail
  rw [← HW5.out]
  refine (HD.out _ HST.out).mono ?_
  rintro e w6 ⟨rfl, hI⟩
  have HI := Aside0.mk hI
  obtain ⟨A6, c6, vo, hb6, hg6, hC6, hc6, hR6, hB6⟩ := hI
  have HC6 := Aside0.mk (HC5.out.below hB6)
  have d1 : w6.cell? ⟨w4.heap.size, 1, none⟩ = some (.slice A6 r.ws.length c6) := (blk_cell hb6 1).trans rfl
  obtain ⟨Ao, co, rfl⟩ := Kd.R_slice hR6
  have d3 : w6.cell? ⟨w4.heap.size, 3, none⟩ = some (.slice Ao r.out.length co) := (blk_cell hb6 3).trans rfl
  have HO := Aside0.mk hR6
  rw [hwl.out] at d1
  clear hb6 hg6 hC6 hc6 hR6 hB6 HI
  go_wp2_with fail
  go_at_call 57
  refine (term_Check.calls kc Ao co r.out _ _ (Kd.R_reads' HO.out).2.2 (Kd.R_reads' HO.out).2.1 HKC.out).mono ?_
  rintro e w7 ⟨rfl, hb⟩
  have HC7 := Aside0.mk (HC6.out.below hb)
  have d37 : w7.cell? ⟨w4.heap.size, 3, none⟩ = some (.slice Ao r.out.length co) := (hb.cell (World.block_lt_of_cell? w6 _ d3)).trans d3
  have HB7 := Aside0.mk hb
  clear hb
  have p7 : w7.cell? ⟨w.heap.size, 0, none⟩ = some (.slice none 0 0) := (blk_cell HC7.out.1 0).trans rfl
  have q7 : w7.cell? ⟨w.heap.size + 1, 0, none⟩ = some (.int .i64 0) := (blk_cell HC7.out.2.1 0).trans rfl
  have q71 : w7.cell? ⟨w.heap.size + 1, 1, none⟩ = some (.int .i64 0) := (blk_cell HC7.out.2.1 1).trans rfl
  have fp7 := blk_frozen HC7.out.1 0
  have fq7 := blk_frozen HC7.out.2.1 0
  have fq71 := blk_frozen HC7.out.2.1 1
  go_wp2
  have hC := ((HC7.out.put0 (.slice none 0 0)).put1 (.int .i64 (chkT r.out false))).put2 (.int .i64 (-1))
  refine leaves_cons (f := 66) (args := #[.pointer (some ⟨w.heap.size, 0, none⟩), .pointer (some ⟨w.heap.size + 1, 0, none⟩)]) (by simp) (by simp [go_sem]) ?_
  refine (catch_idle ⟨w.heap.size, 0, none⟩ ⟨w.heap.size + 1, 0, none⟩ _).mono ?_
  rintro e u' w'' ⟨rfl, rfl, rfl⟩
  simp only [settle]
  exact ⟨_, read_results hC _ rfl rfl, _, rfl, Kd.R_nil _ _ _ _ _, hC.2.2⟩
set_option maxHeartbeats 8000000 in
set_option maxRecDepth 100000 in
theorem run_iff_good (A : Option Addr) (c : Nat) (names : List ByteArray) (s : ByteArray) (w : World) (hr : Kd.C Kd.string w A names.length names) (hc : names.length ≤ c) (h0 : chk names = 0) (hl8 : names.length ≤ 8) (k : Nat) (ws : List Wd) (hk : lexis_Words.f k s = some (ws, 0, 0)) (hws : ws.length ≤ 4096) (r : Rd) (he : run names s.size (roundsFor ws) (ntOf false) ⟨ws, []⟩ = some (.go r)) (hc1 : chkT r.out false = 0) (hw : r.ws = []) (HT : Aside0 (Laid w)) :
    Calls Tryd.prog 53 #[.slice A names.length c, .string s, .bool false] w fun e w' => ∃ v0_ : Value, e = .returned (.tuple #[v0_, .agg #[.int .i64 0, .int .i64 0]]) ∧ Kd.R k55 55 w' w.heap.size (fun _ => True) v0_ r.out ∧ Below w.heap.size w w' := by
  have HR := Aside0.mk hr
  have HK := Aside0.mk hk
  have HCN := Aside0.mk hc
  have HL8 := Aside0.mk hl8
  have HWS := Aside0.mk hws
  have HE := Aside0.mk he
  have c1 : (chk names == 0) = true := beq_iff_eq.2 h0
  have c2 : (chk names != 0) = false := by simp [h0]
  have hmf : ∀ (fn : Fn) (first cap : Array Value) (w : World), (Instr.makeFunc fn first cap).run Tryd.prog w = .ok (.func fn first cap) w := fun _ _ _ _ => rfl
  have hwl : Aside0 (r.ws.length = 0) := ⟨by rw [hw]; rfl⟩
  obtain ⟨kc, hkc⟩ := (Check_ev2 r.out).rounds
  rw [hc1] at hkc
  have HKC := Aside0.mk hkc
  clear hw hc1 hkc
  clear hr hc h0 hk hl8 hws he
  go_enter_defers Tryd.func53, Tryd.ntmps53
  go_wp2_with fail
  refine (check_calls A c names _ (Kd.C_alloc (Kd.C_alloc HR.out _) _)).mono ?_
  rintro e w3 ⟨rfl, hb⟩
  have HC := Aside0.mk ((Cells.start w _ _ _).below hb)
  have hlt3 := Aside0.mk (blk_lt HC.out.2.1)
  clear hb
  go_wp2_with fail
  refine (lexis_Words.calls k s ws 0 0 _ HK.out ⟨Laid.later HT.out HC.out.2.2⟩).mono ?_
  rintro e w4 ⟨vL, rfl, hr, hb⟩
  have HC4 := Aside0.mk (HC.out.below hb)
  obtain ⟨Aw, cw, rfl⟩ := Kd.R_slice hr
  have HWR := Aside0.mk (words_kept hr hlt3.out (.int .i64 0) (.int .i64 0))
  have hlt4 := Aside0.mk (blk_lt HC4.out.2.1)
  clear hb hr HC
  have p0 : w4.cell? ⟨w.heap.size, 0, none⟩ = some (.slice none 0 0) := (blk_cell HC4.out.1 0).trans rfl
  have q0 : w4.cell? ⟨w.heap.size + 1, 0, none⟩ = some (.int .i64 0) := (blk_cell HC4.out.2.1 0).trans rfl
  have q1 : w4.cell? ⟨w.heap.size + 1, 1, none⟩ = some (.int .i64 0) := (blk_cell HC4.out.2.1 1).trans rfl
  have fp := blk_frozen HC4.out.1 0
  have fq := blk_frozen HC4.out.2.1 0
  have fq1 := blk_frozen HC4.out.2.1 1
  obtain ⟨w5, hw5⟩ : ∃ w5, w5 = (w4.setCell ⟨w.heap.size + 1, 0, none⟩ (.int .i64 0)).setCell ⟨w.heap.size + 1, 1, none⟩ (.int .i64 0) := ⟨_, rfl⟩
  have hs5 : Aside0 (w4.heap.size = w5.heap.size) := ⟨by rw [hw5]; simp⟩
  have HW5 := Aside0.mk hw5
  have HC5 : Aside0 (Cells w (.slice none 0 0) (.int .i64 0) (.int .i64 0) w5) := ⟨by rw [hw5]; exact (HC4.out.put1 (.int .i64 0)).put2 (.int .i64 0)⟩
  rw [← hw5] at HWR
  clear hw5
  have HST := Aside0.mk (RdAt.start w5 w4.heap.size hs5.out A names.length c (s.size : Int) Aw cw ws (Kd.R_reads' HWR.out).2.2 (Kd.R_reads' HWR.out).2.1)
  have HD := Aside0.mk (all_does names w5 w4.heap.size A c (s.size : Int) (Kd.C_below HR.out HC5.out.2.2) HCN.out HL8.out (roundsFor ws) (roundsFor ws) (Nat.le_refl _) .iff rfl ⟨ws, []⟩ _ HE.out (by show 0 + ws.length ≤ _; have := HWS.out; omega))
  clear HE HWR
  go_wp2_with fail
  rw [← HW5.out]
  refine (HD.out _ HST.out).mono ?_
  rintro e w6 ⟨rfl, hI⟩
  have HI := Aside0.mk hI
  obtain ⟨A6, c6, vo, hb6, hg6, hC6, hc6, hR6, hB6⟩ := hI
  have HC6 := Aside0.mk (HC5.out.below hB6)
  have d1 : w6.cell? ⟨w4.heap.size, 1, none⟩ = some (.slice A6 r.ws.length c6) := (blk_cell hb6 1).trans rfl
  obtain ⟨Ao, co, rfl⟩ := Kd.R_slice hR6
  have d3 : w6.cell? ⟨w4.heap.size, 3, none⟩ = some (.slice Ao r.out.length co) := (blk_cell hb6 3).trans rfl
  have HO := Aside0.mk hR6
  rw [hwl.out] at d1
  clear hb6 hg6 hC6 hc6 hR6 hB6 HI
  go_wp2_with fail
  go_at_call 57
  refine (term_Check.calls kc Ao co r.out _ _ (Kd.R_reads' HO.out).2.2 (Kd.R_reads' HO.out).2.1 HKC.out).mono ?_
  rintro e w7 ⟨rfl, hb⟩
  have HC7 := Aside0.mk (HC6.out.below hb)
  have d37 : w7.cell? ⟨w4.heap.size, 3, none⟩ = some (.slice Ao r.out.length co) := (hb.cell (World.block_lt_of_cell? w6 _ d3)).trans d3
  have HB7 := Aside0.mk hb
  clear hb
  have p7 : w7.cell? ⟨w.heap.size, 0, none⟩ = some (.slice none 0 0) := (blk_cell HC7.out.1 0).trans rfl
  have q7 : w7.cell? ⟨w.heap.size + 1, 0, none⟩ = some (.int .i64 0) := (blk_cell HC7.out.2.1 0).trans rfl
  have q71 : w7.cell? ⟨w.heap.size + 1, 1, none⟩ = some (.int .i64 0) := (blk_cell HC7.out.2.1 1).trans rfl
  have fp7 := blk_frozen HC7.out.1 0
  have fq7 := blk_frozen HC7.out.2.1 0
  have fq71 := blk_frozen HC7.out.2.1 1
  go_wp2
  have hC := ((HC7.out.put0 (.slice Ao r.out.length co)).put1 (.int .i64 0)).put2 (.int .i64 0)
  have hlt5 : w.heap.size + 1 < w5.heap.size := by rw [← hs5.out]; exact hlt4.out
  have hK := toks_kept HO.out hlt5 HB7.out (.slice Ao r.out.length co) (.int .i64 0) (.int .i64 0)
  refine leaves_cons (f := 66) (args := #[.pointer (some ⟨w.heap.size, 0, none⟩), .pointer (some ⟨w.heap.size + 1, 0, none⟩)]) (by simp) (by simp [go_sem]) ?_
  refine (catch_idle ⟨w.heap.size, 0, none⟩ ⟨w.heap.size + 1, 0, none⟩ _).mono ?_
  rintro e u' w'' ⟨rfl, rfl, rfl⟩
  simp only [settle]
  exact ⟨_, read_results hC _ rfl rfl, _, rfl, hK, hC.2.2⟩
set_option maxHeartbeats 8000000 in
set_option maxRecDepth 100000 in
theorem run_plus_thrown (A : Option Addr) (c : Nat) (names : List ByteArray) (s : ByteArray) (w : World) (hr : Kd.C Kd.string w A names.length names) (hc : names.length ≤ c) (h0 : chk names = 0) (hl8 : names.length ≤ 8) (k : Nat) (ws : List Wd) (hk : lexis_Words.f k s = some (ws, 0, 0)) (hws : ws.length ≤ 4096) (er at_ : Int) (he : run names s.size (roundsFor ws) (ntOf true) ⟨ws, []⟩ = some (.stop er at_)) (HT : Aside0 (Laid w)) :
    Calls Tryd.prog 53 #[.slice A names.length c, .string s, .bool true] w fun e w' => ∃ v0_ : Value, e = .returned (.tuple #[v0_, .agg #[.int .i64 er, .int .i64 at_]]) ∧ Kd.R k55 55 w' w.heap.size (fun _ => True) v0_ [] ∧ Below w.heap.size w w' := by
  have HR := Aside0.mk hr
  have HK := Aside0.mk hk
  have HCN := Aside0.mk hc
  have HL8 := Aside0.mk hl8
  have HWS := Aside0.mk hws
  have HE := Aside0.mk he
  have c1 : (chk names == 0) = true := beq_iff_eq.2 h0
  have c2 : (chk names != 0) = false := by simp [h0]
  have hmf : ∀ (fn : Fn) (first cap : Array Value) (w : World), (Instr.makeFunc fn first cap).run Tryd.prog w = .ok (.func fn first cap) w := fun _ _ _ _ => rfl
  clear hr hc h0 hk hl8 hws he
  go_enter_defers Tryd.func53, Tryd.ntmps53
  go_wp2_with fail
  refine (check_calls A c names _ (Kd.C_alloc (Kd.C_alloc HR.out _) _)).mono ?_
  rintro e w3 ⟨rfl, hb⟩
  have HC := Aside0.mk ((Cells.start w _ _ _).below hb)
  have hlt3 := Aside0.mk (blk_lt HC.out.2.1)
  clear hb
  go_wp2_with fail
  refine (lexis_Words.calls k s ws 0 0 _ HK.out ⟨Laid.later HT.out HC.out.2.2⟩).mono ?_
  rintro e w4 ⟨vL, rfl, hr, hb⟩
  have HC4 := Aside0.mk (HC.out.below hb)
  obtain ⟨Aw, cw, rfl⟩ := Kd.R_slice hr
  have HWR := Aside0.mk (words_kept hr hlt3.out (.int .i64 0) (.int .i64 0))
  have hlt4 := Aside0.mk (blk_lt HC4.out.2.1)
  clear hb hr HC
  have p0 : w4.cell? ⟨w.heap.size, 0, none⟩ = some (.slice none 0 0) := (blk_cell HC4.out.1 0).trans rfl
  have q0 : w4.cell? ⟨w.heap.size + 1, 0, none⟩ = some (.int .i64 0) := (blk_cell HC4.out.2.1 0).trans rfl
  have q1 : w4.cell? ⟨w.heap.size + 1, 1, none⟩ = some (.int .i64 0) := (blk_cell HC4.out.2.1 1).trans rfl
  have fp := blk_frozen HC4.out.1 0
  have fq := blk_frozen HC4.out.2.1 0
  have fq1 := blk_frozen HC4.out.2.1 1
  obtain ⟨w5, hw5⟩ : ∃ w5, w5 = (w4.setCell ⟨w.heap.size + 1, 0, none⟩ (.int .i64 0)).setCell ⟨w.heap.size + 1, 1, none⟩ (.int .i64 0) := ⟨_, rfl⟩
  have hs5 : Aside0 (w4.heap.size = w5.heap.size) := ⟨by rw [hw5]; simp⟩
  have HW5 := Aside0.mk hw5
  have HC5 : Aside0 (Cells w (.slice none 0 0) (.int .i64 0) (.int .i64 0) w5) := ⟨by rw [hw5]; exact (HC4.out.put1 (.int .i64 0)).put2 (.int .i64 0)⟩
  rw [← hw5] at HWR
  clear hw5
  have HST := Aside0.mk (RdAt.start w5 w4.heap.size hs5.out A names.length c (s.size : Int) Aw cw ws (Kd.R_reads' HWR.out).2.2 (Kd.R_reads' HWR.out).2.1)
  have HD := Aside0.mk (all_does names w5 w4.heap.size A c (s.size : Int) (Kd.C_below HR.out HC5.out.2.2) HCN.out HL8.out (roundsFor ws) (roundsFor ws) (Nat.le_refl _) .plus rfl ⟨ws, []⟩ _ HE.out (by show 0 + ws.length ≤ _; have := HWS.out; omega))
  clear HE HWR
  go_wp2_with fail
  rw [← HW5.out]
  refine (HD.out _ HST.out).mono ?_
  rintro e w6 ⟨rfl, hb⟩
  have HC6 := Aside0.mk (HC5.out.below hb)
  clear hb
  unfold thrown
  go_wp2
  refine leaves_cons (f := 66) (args := #[.pointer (some ⟨w.heap.size, 0, none⟩), .pointer (some ⟨w.heap.size + 1, 0, none⟩)]) (by simp) (by simp [go_sem]) ?_
  refine (catch_stop w.heap.size (w.heap.size + 1) er at_ _ _ _ w _ HC6.out.1 HC6.out.2.1 (by omega) (Nat.le_refl _) (Nat.le_succ _) HC6.out.2.2).mono ?_
  rintro e u' w'' ⟨rfl, rfl, h1, h2, h3⟩
  simp only [settle, List.dropWhile_nil]
  exact ⟨_, read_results ⟨h1, h2, h3⟩ _ rfl rfl, _, rfl, Kd.R_nil _ _ _ _ _, h3⟩
set_option maxHeartbeats 8000000 in
set_option maxRecDepth 100000 in
theorem run_plus_left (A : Option Addr) (c : Nat) (names : List ByteArray) (s : ByteArray) (w : World) (hr : Kd.C Kd.string w A names.length names) (hc : names.length ≤ c) (h0 : chk names = 0) (hl8 : names.length ≤ 8) (k : Nat) (ws : List Wd) (hk : lexis_Words.f k s = some (ws, 0, 0)) (hws : ws.length ≤ 4096) (r : Rd) (he : run names s.size (roundsFor ws) (ntOf true) ⟨ws, []⟩ = some (.go r)) (hw : r.ws ≠ []) (HT : Aside0 (Laid w)) :
    Calls Tryd.prog 53 #[.slice A names.length c, .string s, .bool true] w fun e w' => ∃ v0_ : Value, e = .returned (.tuple #[v0_, .agg #[.int .i64 150, .int .i64 (r.place s.size)]]) ∧ Kd.R k55 55 w' w.heap.size (fun _ => True) v0_ [] ∧ Below w.heap.size w w' := by
  have HR := Aside0.mk hr
  have HK := Aside0.mk hk
  have HCN := Aside0.mk hc
  have HL8 := Aside0.mk hl8
  have HWS := Aside0.mk hws
  have HE := Aside0.mk he
  have c1 : (chk names == 0) = true := beq_iff_eq.2 h0
  have c2 : (chk names != 0) = false := by simp [h0]
  have hmf : ∀ (fn : Fn) (first cap : Array Value) (w : World), (Instr.makeFunc fn first cap).run Tryd.prog w = .ok (.func fn first cap) w := fun _ _ _ _ => rfl
  have hwl : 0 < r.ws.length := List.length_pos_iff.2 hw
  have t1 : decide ((0 : Int) < (r.ws.length : Int)) = true := decide_eq_true (by omega)
  have t2 := eq_true (show (0 : Int) < (r.ws.length : Int) by omega)
  have t3 := eq_true hwl
  have t4 := decide_eq_true hwl
  clear hw hwl
  clear hr hc h0 hk hl8 hws he
  go_enter_defers Tryd.func53, Tryd.ntmps53
  go_wp2_with fail
  refine (check_calls A c names _ (Kd.C_alloc (Kd.C_alloc HR.out _) _)).mono ?_
  rintro e w3 ⟨rfl, hb⟩
  have HC := Aside0.mk ((Cells.start w _ _ _).below hb)
  have hlt3 := Aside0.mk (blk_lt HC.out.2.1)
  clear hb
  go_wp2_with fail
  refine (lexis_Words.calls k s ws 0 0 _ HK.out ⟨Laid.later HT.out HC.out.2.2⟩).mono ?_
  rintro e w4 ⟨vL, rfl, hr, hb⟩
  have HC4 := Aside0.mk (HC.out.below hb)
  obtain ⟨Aw, cw, rfl⟩ := Kd.R_slice hr
  have HWR := Aside0.mk (words_kept hr hlt3.out (.int .i64 0) (.int .i64 0))
  have hlt4 := Aside0.mk (blk_lt HC4.out.2.1)
  clear hb hr HC
  have p0 : w4.cell? ⟨w.heap.size, 0, none⟩ = some (.slice none 0 0) := (blk_cell HC4.out.1 0).trans rfl
  have q0 : w4.cell? ⟨w.heap.size + 1, 0, none⟩ = some (.int .i64 0) := (blk_cell HC4.out.2.1 0).trans rfl
  have q1 : w4.cell? ⟨w.heap.size + 1, 1, none⟩ = some (.int .i64 0) := (blk_cell HC4.out.2.1 1).trans rfl
  have fp := blk_frozen HC4.out.1 0
  have fq := blk_frozen HC4.out.2.1 0
  have fq1 := blk_frozen HC4.out.2.1 1
  obtain ⟨w5, hw5⟩ : ∃ w5, w5 = (w4.setCell ⟨w.heap.size + 1, 0, none⟩ (.int .i64 0)).setCell ⟨w.heap.size + 1, 1, none⟩ (.int .i64 0) := ⟨_, rfl⟩
  have hs5 : Aside0 (w4.heap.size = w5.heap.size) := ⟨by rw [hw5]; simp⟩
  have HW5 := Aside0.mk hw5
  have HC5 : Aside0 (Cells w (.slice none 0 0) (.int .i64 0) (.int .i64 0) w5) := ⟨by rw [hw5]; exact (HC4.out.put1 (.int .i64 0)).put2 (.int .i64 0)⟩
  rw [← hw5] at HWR
  clear hw5
  have HST := Aside0.mk (RdAt.start w5 w4.heap.size hs5.out A names.length c (s.size : Int) Aw cw ws (Kd.R_reads' HWR.out).2.2 (Kd.R_reads' HWR.out).2.1)
  have HD := Aside0.mk (all_does names w5 w4.heap.size A c (s.size : Int) (Kd.C_below HR.out HC5.out.2.2) HCN.out HL8.out (roundsFor ws) (roundsFor ws) (Nat.le_refl _) .plus rfl ⟨ws, []⟩ _ HE.out (by show 0 + ws.length ≤ _; have := HWS.out; omega))
  clear HE HWR
  go_wp2_with fail
  rw [← HW5.out]
  refine (HD.out _ HST.out).mono ?_
  rintro e w6 ⟨rfl, hI⟩
  have HI := Aside0.mk hI
  obtain ⟨A6, c6, vo, hb6, hg6, hC6, hc6, hR6, hB6⟩ := hI
  have HC6 := Aside0.mk (HC5.out.below hB6)
  have d1 : w6.cell? ⟨w4.heap.size, 1, none⟩ = some (.slice A6 r.ws.length c6) := (blk_cell hb6 1).trans rfl
  clear hb6 hg6 hC6 hc6 hR6 hB6
  go_wp2_with (go_at_call 69; refine (fail_calls w5 w4.heap.size A names.length c (s.size : Int) r 150 _ HI.out).mono ?_; rintro e w7 ⟨rfl, hb⟩; have HC7 := Aside0.mk (HC5.out.below hb); unfold thrown)
  refine leaves_cons (f := 66) (args := #[.pointer (some ⟨w.heap.size, 0, none⟩), .pointer (some ⟨w.heap.size + 1, 0, none⟩)]) (by simp) (by simp [go_sem]) ?_
  refine (catch_stop w.heap.size (w.heap.size + 1) 150 (r.place s.size) _ _ _ w _ HC7.out.1 HC7.out.2.1 (by omega) (Nat.le_refl _) (Nat.le_succ _) HC7.out.2.2).mono ?_
  rintro e u' w'' ⟨rfl, rfl, h1, h2, h3⟩
  simp only [settle, List.dropWhile_nil]
  exact ⟨_, read_results ⟨h1, h2, h3⟩ _ rfl rfl, _, rfl, Kd.R_nil _ _ _ _ _, h3⟩
set_option maxHeartbeats 8000000 in
set_option maxRecDepth 100000 in
theorem run_plus_bad (A : Option Addr) (c : Nat) (names : List ByteArray) (s : ByteArray) (w : World) (hr : Kd.C Kd.string w A names.length names) (hc : names.length ≤ c) (h0 : chk names = 0) (hl8 : names.length ≤ 8) (k : Nat) (ws : List Wd) (hk : lexis_Words.f k s = some (ws, 0, 0)) (hws : ws.length ≤ 4096) (r : Rd) (he : run names s.size (roundsFor ws) (ntOf true) ⟨ws, []⟩ = some (.go r)) (hc1 : chkT r.out true ≠ 0) (hw : r.ws = []) (HT : Aside0 (Laid w)) :
    Calls Tryd.prog 53 #[.slice A names.length c, .string s, .bool true] w fun e w' => ∃ v0_ : Value, e = .returned (.tuple #[v0_, .agg #[.int .i64 (chkT r.out true), .int .i64 (-1)]]) ∧ Kd.R k55 55 w' w.heap.size (fun _ => True) v0_ [] ∧ Below w.heap.size w w' := by
  have HR := Aside0.mk hr
  have HK := Aside0.mk hk
  have HCN := Aside0.mk hc
  have HL8 := Aside0.mk hl8
  have HWS := Aside0.mk hws
  have HE := Aside0.mk he
  have c1 : (chk names == 0) = true := beq_iff_eq.2 h0
  have c2 : (chk names != 0) = false := by simp [h0]
  have hmf : ∀ (fn : Fn) (first cap : Array Value) (w : World), (Instr.makeFunc fn first cap).run Tryd.prog w = .ok (.func fn first cap) w := fun _ _ _ _ => rfl
  have hwl : Aside0 (r.ws.length = 0) := ⟨by rw [hw]; rfl⟩
  have c3 : (chkT r.out true == 0) = false := beq_eq_false_iff_ne.2 hc1
  have c4 : (chkT r.out true != 0) = true := bne_iff_ne.2 hc1
  obtain ⟨kc, hkc⟩ := (Path_ev2 r.out).rounds
  have HKC := Aside0.mk hkc
  clear hw hc1 hkc
  clear hr hc h0 hk hl8 hws he
  go_enter_defers Tryd.func53, Tryd.ntmps53
  go_wp2_with fail
  refine (check_calls A c names _ (Kd.C_alloc (Kd.C_alloc HR.out _) _)).mono ?_
  rintro e w3 ⟨rfl, hb⟩
  have HC := Aside0.mk ((Cells.start w _ _ _).below hb)
  have hlt3 := Aside0.mk (blk_lt HC.out.2.1)
  clear hb
  go_wp2_with fail
  refine (lexis_Words.calls k s ws 0 0 _ HK.out ⟨Laid.later HT.out HC.out.2.2⟩).mono ?_
  rintro e w4 ⟨vL, rfl, hr, hb⟩
  have HC4 := Aside0.mk (HC.out.below hb)
  obtain ⟨Aw, cw, rfl⟩ := Kd.R_slice hr
  have HWR := Aside0.mk (words_kept hr hlt3.out (.int .i64 0) (.int .i64 0))
  have hlt4 := Aside0.mk (blk_lt HC4.out.2.1)
  clear hb hr HC
  have p0 : w4.cell? ⟨w.heap.size, 0, none⟩ = some (.slice none 0 0) := (blk_cell HC4.out.1 0).trans rfl
  have q0 : w4.cell? ⟨w.heap.size + 1, 0, none⟩ = some (.int .i64 0) := (blk_cell HC4.out.2.1 0).trans rfl
  have q1 : w4.cell? ⟨w.heap.size + 1, 1, none⟩ = some (.int .i64 0) := (blk_cell HC4.out.2.1 1).trans rfl
  have fp := blk_frozen HC4.out.1 0
  have fq := blk_frozen HC4.out.2.1 0
  have fq1 := blk_frozen HC4.out.2.1 1
  obtain ⟨w5, hw5⟩ : ∃ w5, w5 = (w4.setCell ⟨w.heap.size + 1, 0, none⟩ (.int .i64 0)).setCell ⟨w.heap.size + 1, 1, none⟩ (.int .i64 0) := ⟨_, rfl⟩
  have hs5 : Aside0 (w4.heap.size = w5.heap.size) := ⟨by rw [hw5]; simp⟩
  have HW5 := Aside0.mk hw5
  have HC5 : Aside0 (Cells w (.slice none 0 0) (.int .i64 0) (.int .i64 0) w5) := ⟨by rw [hw5]; exact (HC4.out.put1 (.int .i64 0)).put2 (.int .i64 0)⟩
  rw [← hw5] at HWR
  clear hw5
  have HST := Aside0.mk (RdAt.start w5 w4.heap.size hs5.out A names.length c (s.size : Int) Aw cw ws (Kd.R_reads' HWR.out).2.2 (Kd.R_reads' HWR.out).2.1)
  have HD := Aside0.mk (all_does names w5 w4.heap.size A c (s.size : Int) (Kd.C_below HR.out HC5.out.2.2) HCN.out HL8.out (roundsFor ws) (roundsFor ws) (Nat.le_refl _) .plus rfl ⟨ws, []⟩ _ HE.out (by show 0 + ws.length ≤ _; have := HWS.out; omega))
  clear HE HWR
  go_wp2_with fail
  rw [← HW5.out]
  refine (HD.out _ HST.out).mono ?_
  rintro e w6 ⟨rfl, hI⟩
  have HI := Aside0.mk hI
  obtain ⟨A6, c6, vo, hb6, hg6, hC6, hc6, hR6, hB6⟩ := hI
  have HC6 := Aside0.mk (HC5.out.below hB6)
  have d1 : w6.cell? ⟨w4.heap.size, 1, none⟩ = some (.slice A6 r.ws.length c6) := (blk_cell hb6 1).trans rfl
  obtain ⟨Ao, co, rfl⟩ := Kd.R_slice hR6
  have d3 : w6.cell? ⟨w4.heap.size, 3, none⟩ = some (.slice Ao r.out.length co) := (blk_cell hb6 3).trans rfl
  have HO := Aside0.mk hR6
  rw [hwl.out] at d1
  clear hb6 hg6 hC6 hc6 hR6 hB6 HI
  go_wp2_with fail
  go_at_call 59
  refine (term_Path.calls kc Ao co r.out _ _ (Kd.R_reads' HO.out).2.2 (Kd.R_reads' HO.out).2.1 HKC.out).mono ?_
  rintro e w7 ⟨rfl, hb⟩
  have HC7 := Aside0.mk (HC6.out.below hb)
  have d37 : w7.cell? ⟨w4.heap.size, 3, none⟩ = some (.slice Ao r.out.length co) := (hb.cell (World.block_lt_of_cell? w6 _ d3)).trans d3
  have HB7 := Aside0.mk hb
  clear hb
  have p7 : w7.cell? ⟨w.heap.size, 0, none⟩ = some (.slice none 0 0) := (blk_cell HC7.out.1 0).trans rfl
  have q7 : w7.cell? ⟨w.heap.size + 1, 0, none⟩ = some (.int .i64 0) := (blk_cell HC7.out.2.1 0).trans rfl
  have q71 : w7.cell? ⟨w.heap.size + 1, 1, none⟩ = some (.int .i64 0) := (blk_cell HC7.out.2.1 1).trans rfl
  have fp7 := blk_frozen HC7.out.1 0
  have fq7 := blk_frozen HC7.out.2.1 0
  have fq71 := blk_frozen HC7.out.2.1 1
  go_wp2
  have hC := ((HC7.out.put0 (.slice none 0 0)).put1 (.int .i64 (chkT r.out true))).put2 (.int .i64 (-1))
  refine leaves_cons (f := 66) (args := #[.pointer (some ⟨w.heap.size, 0, none⟩), .pointer (some ⟨w.heap.size + 1, 0, none⟩)]) (by simp) (by simp [go_sem]) ?_
  refine (catch_idle ⟨w.heap.size, 0, none⟩ ⟨w.heap.size + 1, 0, none⟩ _).mono ?_
  rintro e u' w'' ⟨rfl, rfl, rfl⟩
  simp only [settle]
  exact ⟨_, read_results hC _ rfl rfl, _, rfl, Kd.R_nil _ _ _ _ _, hC.2.2⟩
set_option maxHeartbeats 8000000 in
set_option maxRecDepth 100000 in
theorem run_plus_good (A : Option Addr) (c : Nat) (names : List ByteArray) (s : ByteArray) (w : World) (hr : Kd.C Kd.string w A names.length names) (hc : names.length ≤ c) (h0 : chk names = 0) (hl8 : names.length ≤ 8) (k : Nat) (ws : List Wd) (hk : lexis_Words.f k s = some (ws, 0, 0)) (hws : ws.length ≤ 4096) (r : Rd) (he : run names s.size (roundsFor ws) (ntOf true) ⟨ws, []⟩ = some (.go r)) (hc1 : chkT r.out true = 0) (hw : r.ws = []) (HT : Aside0 (Laid w)) :
    Calls Tryd.prog 53 #[.slice A names.length c, .string s, .bool true] w fun e w' => ∃ v0_ : Value, e = .returned (.tuple #[v0_, .agg #[.int .i64 0, .int .i64 0]]) ∧ Kd.R k55 55 w' w.heap.size (fun _ => True) v0_ r.out ∧ Below w.heap.size w w' := by
  have HR := Aside0.mk hr
  have HK := Aside0.mk hk
  have HCN := Aside0.mk hc
  have HL8 := Aside0.mk hl8
  have HWS := Aside0.mk hws
  have HE := Aside0.mk he
  have c1 : (chk names == 0) = true := beq_iff_eq.2 h0
  have c2 : (chk names != 0) = false := by simp [h0]
  have hmf : ∀ (fn : Fn) (first cap : Array Value) (w : World), (Instr.makeFunc fn first cap).run Tryd.prog w = .ok (.func fn first cap) w := fun _ _ _ _ => rfl
  have hwl : Aside0 (r.ws.length = 0) := ⟨by rw [hw]; rfl⟩
  obtain ⟨kc, hkc⟩ := (Path_ev2 r.out).rounds
  rw [hc1] at hkc
  have HKC := Aside0.mk hkc
  clear hw hc1 hkc
  clear hr hc h0 hk hl8 hws he
  go_enter_defers Tryd.func53, Tryd.ntmps53
  go_wp2_with fail
  refine (check_calls A c names _ (Kd.C_alloc (Kd.C_alloc HR.out _) _)).mono ?_
  rintro e w3 ⟨rfl, hb⟩
  have HC := Aside0.mk ((Cells.start w _ _ _).below hb)
  have hlt3 := Aside0.mk (blk_lt HC.out.2.1)
  clear hb
  go_wp2_with fail
  refine (lexis_Words.calls k s ws 0 0 _ HK.out ⟨Laid.later HT.out HC.out.2.2⟩).mono ?_
  rintro e w4 ⟨vL, rfl, hr, hb⟩
  have HC4 := Aside0.mk (HC.out.below hb)
  obtain ⟨Aw, cw, rfl⟩ := Kd.R_slice hr
  have HWR := Aside0.mk (words_kept hr hlt3.out (.int .i64 0) (.int .i64 0))
  have hlt4 := Aside0.mk (blk_lt HC4.out.2.1)
  clear hb hr HC
  have p0 : w4.cell? ⟨w.heap.size, 0, none⟩ = some (.slice none 0 0) := (blk_cell HC4.out.1 0).trans rfl
  have q0 : w4.cell? ⟨w.heap.size + 1, 0, none⟩ = some (.int .i64 0) := (blk_cell HC4.out.2.1 0).trans rfl
  have q1 : w4.cell? ⟨w.heap.size + 1, 1, none⟩ = some (.int .i64 0) := (blk_cell HC4.out.2.1 1).trans rfl
  have fp := blk_frozen HC4.out.1 0
  have fq := blk_frozen HC4.out.2.1 0
  have fq1 := blk_frozen HC4.out.2.1 1
  obtain ⟨w5, hw5⟩ : ∃ w5, w5 = (w4.setCell ⟨w.heap.size + 1, 0, none⟩ (.int .i64 0)).setCell ⟨w.heap.size + 1, 1, none⟩ (.int .i64 0) := ⟨_, rfl⟩
  have hs5 : Aside0 (w4.heap.size = w5.heap.size) := ⟨by rw [hw5]; simp⟩
  have HW5 := Aside0.mk hw5
  have HC5 : Aside0 (Cells w (.slice none 0 0) (.int .i64 0) (.int .i64 0) w5) := ⟨by rw [hw5]; exact (HC4.out.put1 (.int .i64 0)).put2 (.int .i64 0)⟩
  rw [← hw5] at HWR
  clear hw5
  have HST := Aside0.mk (RdAt.start w5 w4.heap.size hs5.out A names.length c (s.size : Int) Aw cw ws (Kd.R_reads' HWR.out).2.2 (Kd.R_reads' HWR.out).2.1)
  have HD := Aside0.mk (all_does names w5 w4.heap.size A c (s.size : Int) (Kd.C_below HR.out HC5.out.2.2) HCN.out HL8.out (roundsFor ws) (roundsFor ws) (Nat.le_refl _) .plus rfl ⟨ws, []⟩ _ HE.out (by show 0 + ws.length ≤ _; have := HWS.out; omega))
  clear HE HWR
  go_wp2_with fail
  rw [← HW5.out]
  refine (HD.out _ HST.out).mono ?_
  rintro e w6 ⟨rfl, hI⟩
  have HI := Aside0.mk hI
  obtain ⟨A6, c6, vo, hb6, hg6, hC6, hc6, hR6, hB6⟩ := hI
  have HC6 := Aside0.mk (HC5.out.below hB6)
  have d1 : w6.cell? ⟨w4.heap.size, 1, none⟩ = some (.slice A6 r.ws.length c6) := (blk_cell hb6 1).trans rfl
  obtain ⟨Ao, co, rfl⟩ := Kd.R_slice hR6
  have d3 : w6.cell? ⟨w4.heap.size, 3, none⟩ = some (.slice Ao r.out.length co) := (blk_cell hb6 3).trans rfl
  have HO := Aside0.mk hR6
  rw [hwl.out] at d1
  clear hb6 hg6 hC6 hc6 hR6 hB6 HI
  go_wp2_with fail
  go_at_call 59
  refine (term_Path.calls kc Ao co r.out _ _ (Kd.R_reads' HO.out).2.2 (Kd.R_reads' HO.out).2.1 HKC.out).mono ?_
  rintro e w7 ⟨rfl, hb⟩
  have HC7 := Aside0.mk (HC6.out.below hb)
  have d37 : w7.cell? ⟨w4.heap.size, 3, none⟩ = some (.slice Ao r.out.length co) := (hb.cell (World.block_lt_of_cell? w6 _ d3)).trans d3
  have HB7 := Aside0.mk hb
  clear hb
  have p7 : w7.cell? ⟨w.heap.size, 0, none⟩ = some (.slice none 0 0) := (blk_cell HC7.out.1 0).trans rfl
  have q7 : w7.cell? ⟨w.heap.size + 1, 0, none⟩ = some (.int .i64 0) := (blk_cell HC7.out.2.1 0).trans rfl
  have q71 : w7.cell? ⟨w.heap.size + 1, 1, none⟩ = some (.int .i64 0) := (blk_cell HC7.out.2.1 1).trans rfl
  have fp7 := blk_frozen HC7.out.1 0
  have fq7 := blk_frozen HC7.out.2.1 0
  have fq71 := blk_frozen HC7.out.2.1 1
  go_wp2
  have hC := ((HC7.out.put0 (.slice Ao r.out.length co)).put1 (.int .i64 0)).put2 (.int .i64 0)
  have hlt5 : w.heap.size + 1 < w5.heap.size := by rw [← hs5.out]; exact hlt4.out
  have hK := toks_kept HO.out hlt5 HB7.out (.slice Ao r.out.length co) (.int .i64 0) (.int .i64 0)
  refine leaves_cons (f := 66) (args := #[.pointer (some ⟨w.heap.size, 0, none⟩), .pointer (some ⟨w.heap.size + 1, 0, none⟩)]) (by simp) (by simp [go_sem]) ?_
  refine (catch_idle ⟨w.heap.size, 0, none⟩ ⟨w.heap.size + 1, 0, none⟩ _).mono ?_
  rintro e u' w'' ⟨rfl, rfl, rfl⟩
  simp only [settle]
  exact ⟨_, read_results hC _ rfl rfl, _, rfl, hK, hC.2.2⟩
end Go.Proofs.YtaogoabnidbbpaaDoor.PText
/-! TextReadAll -/
namespace Go.Proofs.YtaogoabnidbbpaaDoor.PText
open Go.RowKit Go.Proofs.YtaogoabnidbbpaaDoorW.PrintWords Go.Proofs.YtaogoabnidbbpaaDoorW.PrintLast Go.Proofs.YtaogoabnidbbpaaDoorW.PrintMore Go.Proofs.YtaogoabnidbbpaaDoorW.Aid
set_option linter.unusedVariables false
theorem chk_len {names : List ByteArray} (h : chk names = 0) : names.length ≤ 8 := by
  unfold chk at h
  split at h
  · exact absurd h (by decide)
  · omega
theorem readW_stop {names : List ByteArray} {last : Int} {n : Nat} {nt : Nt} {ws : List Wd} {er a : Int} (h : run names last n nt ⟨ws, []⟩ = some (.stop er a)) : readW names last n nt ws = some (.stop er a) := by
  unfold readW; rw [h]; rfl
theorem readW_go {names : List ByteArray} {last : Int} {n : Nat} {nt : Nt} {ws : List Wd} {q : Rd} (h : run names last n nt ⟨ws, []⟩ = some (.go q)) (hq : q.ws = []) : readW names last n nt ws = some (.go q) := by
  unfold readW; rw [h]
  show (match q.ws with | [] => some (End.go q) | _ :: _ => some (q.fail last 150)) = _
  rw [hq]
theorem readW_left {names : List ByteArray} {last : Int} {n : Nat} {nt : Nt} {ws : List Wd} {q : Rd} (h : run names last n nt ⟨ws, []⟩ = some (.go q)) (hq : q.ws ≠ []) : readW names last n nt ws = some (.stop 150 (q.place last)) := by
  unfold readW; rw [h]
  show (match q.ws with | [] => some (End.go q) | _ :: _ => some (q.fail last 150)) = _
  cases hw : q.ws with
  | nil => exact absurd hw hq
  | cons a b => rfl
theorem run_all (path : Bool) (A : Option Addr) (c : Nat) (names : List ByteArray) (s : ByteArray) (w : World) (hr : Kd.C Kd.string w A names.length names) (hc : names.length ≤ c) (h0 : chk names = 0) (k : Nat) (ws : List Wd) (hk : lexis_Words.f k s = some (ws, 0, 0)) (hws : ws.length ≤ 4096) (HT : Aside0 (Laid w))
    (r : List Tk × Int × Int) (hr1 : endL path (readW names s.size (roundsFor ws) (ntOf path) ws) = r) :
    Calls Tryd.prog 53 #[.slice A names.length c, .string s, .bool path] w fun e w' => ∃ v0_ : Value, e = .returned (.tuple #[v0_, .agg #[.int .i64 r.2.1, .int .i64 r.2.2]]) ∧ Kd.R k55 55 w' w.heap.size (fun _ => True) v0_ r.1 ∧ Below w.heap.size w w' := by
  have hl8 := chk_len h0
  obtain ⟨e, he⟩ := run_total names s.size (roundsFor ws) (ntOf path) ⟨ws, []⟩ (by unfold roundsFor ntOf; cases path <;> simp [rank])
  subst hr1
  cases e with
  | stop er at_ =>
    rw [readW_stop he]
    cases path
    · exact run_iff_thrown A c names s w hr hc h0 hl8 k ws hk hws er at_ he HT
    · exact run_plus_thrown A c names s w hr hc h0 hl8 k ws hk hws er at_ he HT
  | go q =>
    by_cases hq : q.ws = []
    · rw [readW_go he hq]
      by_cases hc1 : chkT q.out path = 0
      · rw [show endL path (some (.go q)) = (q.out, 0, 0) from if_pos hc1]
        cases path
        · exact run_iff_good A c names s w hr hc h0 hl8 k ws hk hws q he hc1 hq HT
        · exact run_plus_good A c names s w hr hc h0 hl8 k ws hk hws q he hc1 hq HT
      · rw [show endL path (some (.go q)) = ([], chkT q.out path, -1) from if_neg hc1]
        cases path
        · exact run_iff_bad A c names s w hr hc h0 hl8 k ws hk hws q he hc1 hq HT
        · exact run_plus_bad A c names s w hr hc h0 hl8 k ws hk hws q he hc1 hq HT
    · rw [readW_left he hq]
      cases path
      · exact run_iff_left A c names s w hr hc h0 hl8 k ws hk hws q he hq HT
      · exact run_plus_left A c names s w hr hc h0 hl8 k ws hk hws q he hq HT
theorem parse_read.calls (A0 : Option Addr) (c0 : Nat) (l0 : List ByteArray) (a1 : ByteArray) (a2 : Bool) (r1 : List (S55)) (r2 : Int) (r3 : Int) (w : World) (hr0 : Kd.C Kd.string w A0 l0.length l0) (hc0 : l0.length ≤ c0) (h : parse_read.f l0 a1 a2 = some (r1, r2, r3)) (HT : Aside0 (Laid w) := by exact ⟨Laid.later HT.out (by repeat (first | (with_reducible first | exact HB.out | apply below_alloc | apply pw_below_drewN | apply below_drew1) | exact HB.out))⟩) :
    Calls Tryd.prog 53 #[.slice A0 l0.length c0, .string a1, .bool a2] w fun e w' => ∃ v0_ : Value, e = .returned (.tuple #[v0_, .agg #[.int .i64 r2, .int .i64 r3]]) ∧ Kd.R k55 55 w' w.heap.size (fun _ => True) v0_ r1 ∧ Below w.heap.size w w' := by
  unfold parse_read.f at h
  have h := Option.some.inj h
  have hsz : a1.data.toList.length = a1.size := size_eq a1
  obtain ⟨k, hk⟩ := (words_ev a1).rounds
  have hwl := words_len a1.data.toList
  unfold readL at h
  obtain ⟨ws, er, a, hw⟩ : ∃ ws er a, wordsL a1.data.toList = (ws, er, a) := ⟨_, _, _, rfl⟩
  rw [hw] at h hk hwl
  rw [hsz] at h
  by_cases h0 : chk l0 = 0
  · rw [if_pos h0] at h
    by_cases h1 : er = 0
    · subst h1
      by_cases h2 : a = 0
      · subst h2
        rw [if_pos ⟨rfl, rfl⟩] at h
        exact run_all a2 A0 c0 l0 a1 w hr0 hc0 h0 k ws hk hwl HT (r1, r2, r3) h
      · rw [if_neg (fun hh => h2 hh.2)] at h
        cases h
        exact (read_words2 A0 c0 l0 a1 a2 w hr0 hc0 h0 k ws a hk h2 HT).mono fun e w' ⟨he, hb⟩ => ⟨_, he, Kd.R_nil _ _ _ _ _, hb⟩
    · rw [if_neg (fun hh => h1 hh.1)] at h
      cases h
      exact (read_words1 A0 c0 l0 a1 a2 w hr0 hc0 h0 k ws er a hk h1 HT).mono fun e w' ⟨he, hb⟩ => ⟨_, he, Kd.R_nil _ _ _ _ _, hb⟩
  · rw [if_neg h0] at h
    cases h
    exact (read_names A0 c0 l0 a1 a2 w hr0 hc0 h0).mono fun e w' ⟨he, hb⟩ => ⟨_, he, Kd.R_nil _ _ _ _ _, hb⟩
end Go.Proofs.YtaogoabnidbbpaaDoor.PText
/-! PTextF -/
namespace Go.Proofs.YtaogoabnidbbpaaDoor.PText
open Go.RowKit Go.Proofs.YtaogoabnidbbpaaDoorW.PrintWords Go.Proofs.YtaogoabnidbbpaaDoorW.PrintLast Go.Proofs.YtaogoabnidbbpaaDoorW.PrintMore
attribute [local go_sem] max2_int min2_int max_two min_two max_three min_three max_four min_four   -- for this text's walks alone
set_option linter.unusedVariables false
set_option linter.unusedSimpArgs false
attribute [local go_sem high] eqA26 eqA55
def parse_Formula.f (l0 : List ByteArray) (a1 : ByteArray) : Option ((List (S55)) × Int × Int) := (parse_read.f l0 a1 false).bind fun bt165 => (some (bt165.1, bt165.2.1, bt165.2.2))
set_option maxHeartbeats 8000000 in
set_option maxRecDepth 100000 in
theorem parse_Formula.calls (A0 : Option Addr) (c0 : Nat) (l0 : List ByteArray) (a1 : ByteArray) (r1 : List (S55)) (r2 : Int) (r3 : Int) (w : World) (hr0 : Kd.C Kd.string w A0 l0.length l0) (hc0 : l0.length ≤ c0) (h : parse_Formula.f l0 a1 = some (r1, r2, r3)) (HT : Aside0 (Laid w) := by exact ⟨Laid.later HT.out (by repeat (first | (with_reducible first | exact HB.out | apply below_alloc | apply pw_below_drewN | apply below_drew1) | exact HB.out | (refine below_set ?_ (Aside0.out (by assumption)))))⟩) :
    Calls Tryd.prog 26 #[.slice A0 l0.length c0, .string a1] w fun e w' => ∃ v0_ : Value, e = .returned (.tuple #[v0_, .agg #[.int .i64 r2, .int .i64 r3]]) ∧ Kd.R k55 55 w' w.heap.size (fun _ => True) v0_ r1 ∧ Below w.heap.size w w' := by
  have hu26 := Tryd.underlying26
  have HR0 := Aside0.mk hr0
  have HC0 := Aside0.mk hc0
  clear hr0 hc0
  have HB := Aside0.mk (Below.refl w.heap.size w)
  have H : ((parse_read.f l0 a1 false).bind fun bt165 => (some (bt165.1, bt165.2.1, bt165.2.2))) = some (r1, r2, r3) := h
  clear h
  replace H := Option.bind_eq_some_iff.mp H
  obtain ⟨⟨t165, t168, t169⟩, A30, H⟩ := H
  replace H : (some (t165, t168, t169)) = some (r1, r2, r3) := H
  have A3 := Aside0.mk A30
  clear A30
  simp only [Option.some.injEq, Prod.mk.injEq] at H
  obtain ⟨rfl, rfl, rfl⟩ := H
  go_enter Tryd.func26, Tryd.ntmps26
  go_wp2_with (first | ((with_reducible refine gate_dst (N := 5) rfl ?_); refine box_event ?hg (N := 5) ?hd (cs := #[.int .i64 0, .int .i64 0]) (t := 26) ?hr ?_; (case hd => rfl); (case hg => rfl); (case hr => first | (go_simp; done) | (go_simp; rfl)); intro gb164 hg w4 hbox hb; have n0_ := Aside0.mk (below_step (by repeat (first | (with_reducible first | exact HB.out | apply below_alloc | apply pw_below_drewN | apply below_drew1) | exact HB.out)) hb); have n1_ := Aside0.mk (hbox); have n2_ := Aside0.mk ((by rw [hg]; exact (below_size (by repeat (first | (with_reducible first | exact HB.out | apply below_alloc | apply pw_below_drewN | apply below_drew1) | exact HB.out))) : w.heap.size ≤ gb164)); have n3_ := Aside0.mk ((by rw [hg]; exact (below_size (by repeat (first | (with_reducible first | exact HB.out | apply below_alloc | apply pw_below_drewN | apply below_drew1) | exact HB.out))) : w.heap.size ≤ gb164)); clear HB; have HB := n0_; have BK164 := n1_; have GW164 := n2_; have GE164 := n3_; clear n0_ n1_ n2_ n3_; clear hb hbox hg) | ((with_reducible refine gate_callee (f := 53) rfl ?_); refine goesL_ (some 8) rfl rfl Tryd.func53 (by kernel_rfl) rfl #[.slice A0 l0.length c0, .string a1, .bool false] rfl (by (try simp only [List.map_toArray, List.map_cons, List.map_nil]); first | done | rfl | (simp only [List.length_drop, List.length_take]; rfl)) ?_; (with_reducible refine (parse_read.calls _ _ l0 a1 false t165 t168 t169 _ ?side1 ?side2 A3.out).mono ?_); (case side1 => repeat (first | exact (Kd.C_below HR0.out HB.out) | (with_reducible refine Kd.C_alloc ?_ _) | (with_reducible refine Kd.C_drewN ?_ _) | (with_reducible refine Kd.C_drew ?_))); (case side2 => exact HC0.out); rintro e w5 ⟨v166, rfl, ho0, hb⟩; refine ⟨_, rfl, ?_⟩; have n0_ := Aside0.mk (Kd.R_lower ho0 (below_size (by repeat (first | (with_reducible first | exact HB.out | apply below_alloc | apply pw_below_drewN | apply below_drew1 | refine below_set ?_ GE164.out) | exact HB.out)))); have n1_ := Aside0.mk (blk_below (g := gb164) (o := .cells #[.int .i64 0, .int .i64 0] 26 (0, 0)) (by (with_reducible repeat (first | refine blk_drewN ?_ _ | refine blk_drew ?_ | refine blk_alloc ?_ _)); exact BK164.out) hb); have n2_ := Aside0.mk (below_step (by repeat (first | (with_reducible first | exact HB.out | apply below_alloc | apply pw_below_drewN | apply below_drew1 | refine below_set ?_ GE164.out) | exact HB.out)) hb); clear BK164; clear HB; have HO167 := n0_; have BK164 := n1_; have HB := n2_; clear n0_ n1_ n2_; (try clear hb); (try clear hb2); (try clear hk); (try clear hi); (try clear ho0); have hcz6_0 : w5.cell? ⟨gb164, 0, none⟩ = some (.int .i64 0) := (blk_cell BK164.out 0).trans rfl; have hcz6_1 : w5.cell? ⟨gb164, 1, none⟩ = some (.int .i64 0) := (blk_cell BK164.out 1).trans rfl; have hfz6_0 := blk_frozen BK164.out 0; have hfz6_1 := blk_frozen BK164.out 1))
  refine bodyPost_ret (results_tc rfl _ _ gb164 26 #[.int .i64 t168, .int .i64 t169] (0, 0) _ rfl (by (with_reducible repeat (first | refine blk_drewN ?_ _ | refine blk_drew ?_ | refine blk_alloc ?_ _)); refine blk_put (cs := #[.int .i64 t168, .int .i64 0]) ?_ 1 _ rfl; (with_reducible repeat (first | refine blk_drewN ?_ _ | refine blk_drew ?_ | refine blk_alloc ?_ _)); refine blk_put (cs := #[.int .i64 0, .int .i64 0]) ?_ 0 _ rfl; (with_reducible repeat (first | refine blk_drewN ?_ _ | refine blk_drew ?_ | refine blk_alloc ?_ _)); exact BK164.out) Tryd.underlying26 rfl (by kernel_rfl)) rfl ?_
  exact ⟨_, by first | rfl | (simp [errW_none, errW_some] <;> rfl) | (simp [*, errW_none, errW_some] <;> rfl), by (with_reducible repeat (first | apply Kd.R_alloc | apply Kd.R_drewN | apply Kd.R_drew)); exact Kd.R_mono (Kd.R_far (p := ⟨gb164, 1, none⟩) (Kd.R_far (p := ⟨gb164, 0, none⟩) (Kd.R_types HO167.out BK164.out (by decide)) (fun _ hk => hk.2) (.int .i64 t168)) (fun _ hk => hk.2) (.int .i64 t169)) (fun _ hk => trivial), by repeat (first | (with_reducible first | exact HB.out | apply below_alloc | apply pw_below_drewN | apply below_drew1 | refine below_set ?_ GE164.out) | exact HB.out)⟩
def rejoinderlaw05_awake.f (k : Nat)  : Option (Bool) := (parse_Formula.f (([(⟨#[112]⟩ : ByteArray), (⟨#[113]⟩ : ByteArray)] : List ByteArray)) (⟨#[112, 32, 85, 32, 113, 32, 38, 32, 112]⟩ : ByteArray)).bind fun bt175 => (if (bt175.2.1 == 0 && (bt175.2.2 == 0)) = true then ((rejoinderkit_SameToks.f k bt175.1 (([(⟨2, 0⟩ : S55), (⟨2, 1⟩ : S55), (⟨15, 0⟩ : S55), (⟨2, 0⟩ : S55), (⟨11, 0⟩ : S55)] : List (S55)))).bind fun t186 => (some t186)) else (some false))
theorem rejoinderlaw05_awake.mono : ∀ k, LeO (rejoinderlaw05_awake.f k ) (rejoinderlaw05_awake.f (k + 1) ) := by
  intro  k
  unfold rejoinderlaw05_awake.f
  repeat' first
      | (with_reducible exact rejoinderkit_SameToks.mono _ _ _)
      | (with_reducible exact LeO.refl _)
      | (with_reducible exact LeO.none _)
      | (with_reducible refine LeO.ite ?_ ?_)
      | (with_reducible refine LeO.bind ?_ (fun _ => ?_))
      | exact rejoinderkit_SameToks.mono _ _ _
      | exact LeO.none _
      | refine LeO.ite ?_ ?_
      | refine LeO.bind ?_ (fun _ => ?_)
set_option maxHeartbeats 8000000 in
set_option maxRecDepth 100000 in
theorem rejoinderlaw05_awake.calls (k : Nat)  (r : Bool) (w : World) (h : rejoinderlaw05_awake.f k  = some r) (HT : Aside0 (Laid w) := by exact ⟨Laid.later HT.out (by repeat (first | (with_reducible first | exact HB.out | apply below_alloc | apply pw_below_drewN | apply below_drew1) | exact HB.out | (refine below_set ?_ (Aside0.out (by assumption)))))⟩) :
    Calls Tryd.prog 25 #[] w fun e w' => e = .returned (.bool r) ∧ Below w.heap.size w w' := by
  have hu26 := Tryd.underlying26
  have hu55 := Tryd.underlying55
  have HB := Aside0.mk (Below.refl w.heap.size w)
  have H : ((parse_Formula.f (([(⟨#[112]⟩ : ByteArray), (⟨#[113]⟩ : ByteArray)] : List ByteArray)) (⟨#[112, 32, 85, 32, 113, 32, 38, 32, 112]⟩ : ByteArray)).bind fun bt175 => (if (bt175.2.1 == 0 && (bt175.2.2 == 0)) = true then ((rejoinderkit_SameToks.f k bt175.1 (([(⟨2, 0⟩ : S55), (⟨2, 1⟩ : S55), (⟨15, 0⟩ : S55), (⟨2, 0⟩ : S55), (⟨11, 0⟩ : S55)] : List (S55)))).bind fun t186 => (some t186)) else (some false))) = some r := h
  clear h
  obtain ⟨y172, hy172⟩ : ∃ y_ : List ByteArray, y_ = (([(⟨#[112]⟩ : ByteArray), (⟨#[113]⟩ : ByteArray)] : List ByteArray)) := ⟨_, rfl⟩
  replace H : ((parse_Formula.f y172 (⟨#[112, 32, 85, 32, 113, 32, 38, 32, 112]⟩ : ByteArray)).bind fun bt175 => (if (bt175.2.1 == 0 && (bt175.2.2 == 0)) = true then ((rejoinderkit_SameToks.f k bt175.1 (([(⟨2, 0⟩ : S55), (⟨2, 1⟩ : S55), (⟨15, 0⟩ : S55), (⟨2, 0⟩ : S55), (⟨11, 0⟩ : S55)] : List (S55)))).bind fun t186 => (some t186)) else (some false))) = some r := by first | (rw [hy172]; with_reducible exact H) | (have H2_ := (Option.bind_some _ _).symm.trans H; rw [hy172]; with_reducible exact H2_) | (have H2_ := (Option.bind_some _ _).symm.trans H; with_reducible exact H2_) | with_reducible exact H | (rw [hy172]; exact H) | exact H
  have Ny172 := Aside0.mk hy172
  clear hy172
  replace H := Option.bind_eq_some_iff.mp H
  obtain ⟨⟨t175, t178, t179⟩, A10, H⟩ := H
  replace H : (if (t178 == 0 && (t179 == 0)) = true then ((rejoinderkit_SameToks.f k t175 (([(⟨2, 0⟩ : S55), (⟨2, 1⟩ : S55), (⟨15, 0⟩ : S55), (⟨2, 0⟩ : S55), (⟨11, 0⟩ : S55)] : List (S55)))).bind fun t186 => (some t186)) else (some false)) = some r := H
  have A1 := Aside0.mk A10
  clear A10
  by_cases c2 : (t178 == 0 && (t179 == 0)) = true
  · rw [if_pos c2] at H
    have c2b0 : (t178 == 0 && (t179 == 0)) = true := c2
    (try (have c2b1 : decide (t178 = 0 && (t179 == 0)) = true := by simpa using c2))
    (try (have c2b2 : (t178 == 0 && (t179 == 0)) = true := by simpa using c2))
    clear c2
    obtain ⟨y183, hy183⟩ : ∃ y_ : List (S55), y_ = (([(⟨2, 0⟩ : S55), (⟨2, 1⟩ : S55), (⟨15, 0⟩ : S55), (⟨2, 0⟩ : S55), (⟨11, 0⟩ : S55)] : List (S55))) := ⟨_, rfl⟩
    replace H : ((rejoinderkit_SameToks.f k t175 y183).bind fun t186 => (some t186)) = some r := by first | (rw [hy183]; with_reducible exact H) | (have H2_ := (Option.bind_some _ _).symm.trans H; rw [hy183]; with_reducible exact H2_) | (have H2_ := (Option.bind_some _ _).symm.trans H; with_reducible exact H2_) | with_reducible exact H | (rw [hy183]; exact H) | exact H
    have Ny183 := Aside0.mk hy183
    clear hy183
    replace H := Option.bind_eq_some_iff.mp H
    obtain ⟨t186, A30, H⟩ := H
    replace H : (some t186) = some r := H
    have A3 := Aside0.mk A30
    clear A30
    obtain rfl := Option.some.inj H
    go_enter Tryd.func25, Tryd.ntmps25
    go_wp2_with (first | ((with_reducible refine gate_dst (N := 6) rfl ?_); (try (refine gate_guard (by rfl) ?_; dsimp only)); refine Kd.R_lit Kd.string _ 9 ?hg (N := 6) ?hd (xs := ([(⟨#[112]⟩ : ByteArray), (⟨#[113]⟩ : ByteArray)] : List ByteArray)) (inner := [.string (⟨#[112]⟩ : ByteArray), .string (⟨#[113]⟩ : ByteArray)]) (ok := fun _ => True) (okp := fun _ => True) ?hr ?hp (fun _ hk => hk) trivial (Below.refl _ _) (Nat.le_refl _) (by simp) ?_; (case hd => rfl); (case hg => rfl); (case hr => first | (go_simp; done) | (go_simp; rfl)); (case hp => exact (Reps.one (show Kd.M Kd.string _ _ _ (⟨#[112]⟩ : ByteArray) [.string (⟨#[112]⟩ : ByteArray)] from rfl) (Reps.one (show Kd.M Kd.string _ _ _ (⟨#[113]⟩ : ByteArray) [.string (⟨#[113]⟩ : ByteArray)] from rfl) (Reps.none _ _)))); intro v173 w4 ho5 hb hg_ hnew_; clear hg_ hnew_; (first | rw [← Ny172.out] at ho5 | (simp only [Int.reduceToNat] at ho5; rw [← Ny172.out] at ho5)); have n0_ := Aside0.mk (Kd.R_lower ho5 (below_size (by repeat (first | (with_reducible first | exact HB.out | apply below_alloc | apply pw_below_drewN | apply below_drew1) | exact HB.out)))); have n1_ := Aside0.mk (below_step (by repeat (first | (with_reducible first | exact HB.out | apply below_alloc | apply pw_below_drewN | apply below_drew1) | exact HB.out)) hb); clear HB; have HO174 := n0_; have HB := n1_; clear n0_ n1_; clear hb ho5; obtain ⟨Ao6, co6, eo6⟩ := Kd.R_slice HO174.out; subst eo6) | ((with_reducible refine gate_callee (f := 26) rfl ?_); refine goesL_ (some 7) rfl rfl Tryd.func26 (by kernel_rfl) rfl #[.slice Ao6 y172.length co6, .string (⟨#[112, 32, 85, 32, 113, 32, 38, 32, 112]⟩ : ByteArray)] rfl (by (try simp only [List.map_toArray, List.map_cons, List.map_nil]); first | done | rfl | (simp only [List.length_drop, List.length_take]; rfl)) ?_; (with_reducible refine (parse_Formula.calls _ _ y172 (⟨#[112, 32, 85, 32, 113, 32, 38, 32, 112]⟩ : ByteArray) t175 t178 t179 _ ?side1 ?side2 A1.out).mono ?_); (case side1 => repeat (first | exact (Kd.R_reads' HO174.out).2.2 | (with_reducible refine Kd.C_alloc ?_ _) | (with_reducible refine Kd.C_drewN ?_ _) | (with_reducible refine Kd.C_drew ?_))); (case side2 => exact (Kd.R_reads' HO174.out).2.1); rintro e w7 ⟨v176, rfl, ho0, hb⟩; refine ⟨_, rfl, ?_⟩; have n0_ := Aside0.mk (Kd.R_below (by (with_reducible repeat (first | apply Kd.R_alloc | apply Kd.R_drewN | apply Kd.R_drew)); exact HO174.out) hb); have n1_ := Aside0.mk (Kd.R_lower ho0 (below_size (by repeat (first | (with_reducible first | exact HB.out | apply below_alloc | apply pw_below_drewN | apply below_drew1) | exact HB.out)))); have n2_ := Aside0.mk (below_step (by repeat (first | (with_reducible first | exact HB.out | apply below_alloc | apply pw_below_drewN | apply below_drew1) | exact HB.out)) hb); clear HO174; clear HB; have HO174 := n0_; have HO177 := n1_; have HB := n2_; clear n0_ n1_ n2_; (try clear hb); (try clear hb2); (try clear hk); (try clear hi); (try clear ho0)) | ((with_reducible refine gate_dst (N := 2) rfl ?_); (try (refine gate_guard (by rfl) ?_; dsimp only)); refine box_event ?hg (N := 2) ?hd (cs := #[.int .i64 0, .int .i64 0]) (t := 26) ?hr ?_; (case hd => rfl); (case hg => rfl); (case hr => first | (go_simp; done) | (go_simp; rfl)); intro gb180 hg w8 hbox hb; have n0_ := Aside0.mk (Kd.R_below (by (with_reducible repeat (first | apply Kd.R_alloc | apply Kd.R_drewN | apply Kd.R_drew)); exact HO174.out) hb); have n1_ := Aside0.mk (Kd.R_below (by (with_reducible repeat (first | apply Kd.R_alloc | apply Kd.R_drewN | apply Kd.R_drew)); exact HO177.out) hb); have n2_ := Aside0.mk (below_step (by repeat (first | (with_reducible first | exact HB.out | apply below_alloc | apply pw_below_drewN | apply below_drew1) | exact HB.out)) hb); have n3_ := Aside0.mk (hbox); have n4_ := Aside0.mk ((by rw [hg]; exact (below_size (by repeat (first | (with_reducible first | exact HB.out | apply below_alloc | apply pw_below_drewN | apply below_drew1) | exact HB.out))) : w.heap.size ≤ gb180)); have n5_ := Aside0.mk ((by rw [hg]; exact (below_size (by repeat (first | (with_reducible first | exact HB.out | apply below_alloc | apply pw_below_drewN | apply below_drew1) | exact HB.out))) : w.heap.size ≤ gb180)); clear HO174; clear HO177; clear HB; have HO174 := n0_; have HO177 := n1_; have HB := n2_; have BK180 := n3_; have GW180 := n4_; have GE180 := n5_; clear n0_ n1_ n2_ n3_ n4_ n5_; clear hb hbox hg; have hcz9_0 : w8.cell? ⟨gb180, 0, none⟩ = some (.int .i64 0) := (blk_cell BK180.out 0).trans rfl; have hcz9_1 : w8.cell? ⟨gb180, 1, none⟩ = some (.int .i64 0) := (blk_cell BK180.out 1).trans rfl; have hfz9_0 := blk_frozen BK180.out 0; have hfz9_1 := blk_frozen BK180.out 1) | ((with_reducible refine gate_dst (N := 3) rfl ?_); (try (refine gate_guard (by rfl) ?_; dsimp only)); refine box_event ?hg (N := 3) ?hd (cs := #[.int .u8 0, .int .u8 0]) (t := 55) ?hr ?_; (case hd => rfl); (case hg => rfl); (case hr => first | (go_simp; done) | (go_simp; rfl)); intro gb181 hg w10 hbox hb; have n0_ := Aside0.mk (Kd.R_below (by (with_reducible repeat (first | apply Kd.R_alloc | apply Kd.R_drewN | apply Kd.R_drew)); exact (Kd.R_mono (Kd.R_far (p := ⟨gb180, 1, none⟩) (Kd.R_far (p := ⟨gb180, 0, none⟩) (Kd.R_types HO174.out BK180.out (by decide)) (fun _ hk => hk.2) (.int .i64 t178)) (fun _ hk => hk.2) (.int .i64 t179)) (fun _ h_ => h_.1))) hb); have n1_ := Aside0.mk (Kd.R_below (Kd.R_elderB (by (with_reducible repeat (first | apply Kd.R_alloc | apply Kd.R_drewN | apply Kd.R_drew)); exact (Kd.R_mono (Kd.R_far (p := ⟨gb180, 1, none⟩) (Kd.R_far (p := ⟨gb180, 0, none⟩) (Kd.R_types HO177.out BK180.out (by decide)) (fun _ hk => hk.2) (.int .i64 t178)) (fun _ hk => hk.2) (.int .i64 t179)) (fun _ h_ => h_.1))) gb181 (Nat.le_of_eq hg.symm)) hb); have n2_ := Aside0.mk (blk_below (g := gb180) (o := .cells #[.int .i64 t178, .int .i64 t179] 26 (0, 0)) (by (with_reducible repeat (first | refine blk_drewN ?_ _ | refine blk_drew ?_ | refine blk_alloc ?_ _)); refine blk_put (cs := #[.int .i64 t178, .int .i64 0]) ?_ 1 _ rfl; (with_reducible repeat (first | refine blk_drewN ?_ _ | refine blk_drew ?_ | refine blk_alloc ?_ _)); refine blk_put (cs := #[.int .i64 0, .int .i64 0]) ?_ 0 _ rfl; (with_reducible repeat (first | refine blk_drewN ?_ _ | refine blk_drew ?_ | refine blk_alloc ?_ _)); exact BK180.out) hb); have n3_ := Aside0.mk (below_step (by repeat (first | (with_reducible first | exact HB.out | apply below_alloc | apply pw_below_drewN | apply below_drew1 | refine below_set ?_ GE180.out) | exact HB.out)) hb); have n4_ := Aside0.mk (hbox); have n5_ := Aside0.mk ((by rw [hg]; exact (below_size (by repeat (first | (with_reducible first | exact HB.out | apply below_alloc | apply pw_below_drewN | apply below_drew1 | refine below_set ?_ GE180.out) | exact HB.out))) : w.heap.size ≤ gb181)); have n6_ := Aside0.mk ((by rw [hg]; exact (below_size (by repeat (first | (with_reducible first | exact HB.out | apply below_alloc | apply pw_below_drewN | apply below_drew1 | refine below_set ?_ GE180.out) | exact HB.out))) : w.heap.size ≤ gb181)); have n7_ := Aside0.mk ((by rw [hg]; exact Nat.ne_of_lt (blk_lt (g := gb180) (o := .cells #[.int .i64 t178, .int .i64 t179] 26 (0, 0)) (by (with_reducible repeat (first | refine blk_drewN ?_ _ | refine blk_drew ?_ | refine blk_alloc ?_ _)); refine blk_put (cs := #[.int .i64 t178, .int .i64 0]) ?_ 1 _ rfl; (with_reducible repeat (first | refine blk_drewN ?_ _ | refine blk_drew ?_ | refine blk_alloc ?_ _)); refine blk_put (cs := #[.int .i64 0, .int .i64 0]) ?_ 0 _ rfl; (with_reducible repeat (first | refine blk_drewN ?_ _ | refine blk_drew ?_ | refine blk_alloc ?_ _)); exact BK180.out)) : gb180 ≠ gb181)); have n8_ := Aside0.mk ((by rw [hg]; exact Nat.ne_of_gt (blk_lt (g := gb180) (o := .cells #[.int .i64 t178, .int .i64 t179] 26 (0, 0)) (by (with_reducible repeat (first | refine blk_drewN ?_ _ | refine blk_drew ?_ | refine blk_alloc ?_ _)); refine blk_put (cs := #[.int .i64 t178, .int .i64 0]) ?_ 1 _ rfl; (with_reducible repeat (first | refine blk_drewN ?_ _ | refine blk_drew ?_ | refine blk_alloc ?_ _)); refine blk_put (cs := #[.int .i64 0, .int .i64 0]) ?_ 0 _ rfl; (with_reducible repeat (first | refine blk_drewN ?_ _ | refine blk_drew ?_ | refine blk_alloc ?_ _)); exact BK180.out)) : gb181 ≠ gb180)); clear HO174; clear HO177; clear BK180; clear HB; have HO174 := n0_; have HO177 := n1_; have BK180 := n2_; have HB := n3_; have BK181 := n4_; have GW181 := n5_; have GE181 := n6_; have NB180_181 := n7_; have NB181_180 := n8_; clear n0_ n1_ n2_ n3_ n4_ n5_ n6_ n7_ n8_; clear hb hbox hg) | ((with_reducible refine gate_dst (N := 4) rfl ?_); (try (refine gate_guard (by rfl) ?_; dsimp only)); refine box_event ?hg (N := 4) ?hd (cs := #[.int .u8 0, .int .u8 0]) (t := 55) ?hr ?_; (case hd => rfl); (case hg => rfl); (case hr => first | (go_simp; done) | (go_simp; rfl)); intro gb182 hg w11 hbox hb; have n0_ := Aside0.mk (Kd.R_below (by (with_reducible repeat (first | apply Kd.R_alloc | apply Kd.R_drewN | apply Kd.R_drew)); exact HO174.out) hb); have n1_ := Aside0.mk (Kd.R_below (Kd.R_elderB (by (with_reducible repeat (first | apply Kd.R_alloc | apply Kd.R_drewN | apply Kd.R_drew)); exact HO177.out) gb182 (Nat.le_of_eq hg.symm)) hb); have n2_ := Aside0.mk (blk_below (g := gb180) (o := .cells #[.int .i64 t178, .int .i64 t179] 26 (0, 0)) (by (with_reducible repeat (first | refine blk_drewN ?_ _ | refine blk_drew ?_ | refine blk_alloc ?_ _)); exact BK180.out) hb); have n3_ := Aside0.mk (blk_below (g := gb181) (o := .cells #[.int .u8 0, .int .u8 0] 55 (0, 0)) (by (with_reducible repeat (first | refine blk_drewN ?_ _ | refine blk_drew ?_ | refine blk_alloc ?_ _)); exact BK181.out) hb); have n4_ := Aside0.mk (below_step (by repeat (first | (with_reducible first | exact HB.out | apply below_alloc | apply pw_below_drewN | apply below_drew1 | refine below_set ?_ GE180.out | refine below_set ?_ GE181.out) | exact HB.out)) hb); have n5_ := Aside0.mk (hbox); have n6_ := Aside0.mk ((by rw [hg]; exact (below_size (by repeat (first | (with_reducible first | exact HB.out | apply below_alloc | apply pw_below_drewN | apply below_drew1 | refine below_set ?_ GE180.out | refine below_set ?_ GE181.out) | exact HB.out))) : w.heap.size ≤ gb182)); have n7_ := Aside0.mk ((by rw [hg]; exact (below_size (by repeat (first | (with_reducible first | exact HB.out | apply below_alloc | apply pw_below_drewN | apply below_drew1 | refine below_set ?_ GE180.out | refine below_set ?_ GE181.out) | exact HB.out))) : w.heap.size ≤ gb182)); have n8_ := Aside0.mk ((by rw [hg]; exact Nat.ne_of_lt (blk_lt (g := gb180) (o := .cells #[.int .i64 t178, .int .i64 t179] 26 (0, 0)) (by (with_reducible repeat (first | refine blk_drewN ?_ _ | refine blk_drew ?_ | refine blk_alloc ?_ _)); exact BK180.out)) : gb180 ≠ gb182)); have n9_ := Aside0.mk ((by rw [hg]; exact Nat.ne_of_gt (blk_lt (g := gb180) (o := .cells #[.int .i64 t178, .int .i64 t179] 26 (0, 0)) (by (with_reducible repeat (first | refine blk_drewN ?_ _ | refine blk_drew ?_ | refine blk_alloc ?_ _)); exact BK180.out)) : gb182 ≠ gb180)); have n10_ := Aside0.mk ((by rw [hg]; exact Nat.ne_of_lt (blk_lt (g := gb181) (o := .cells #[.int .u8 0, .int .u8 0] 55 (0, 0)) (by (with_reducible repeat (first | refine blk_drewN ?_ _ | refine blk_drew ?_ | refine blk_alloc ?_ _)); exact BK181.out)) : gb181 ≠ gb182)); have n11_ := Aside0.mk ((by rw [hg]; exact Nat.ne_of_gt (blk_lt (g := gb181) (o := .cells #[.int .u8 0, .int .u8 0] 55 (0, 0)) (by (with_reducible repeat (first | refine blk_drewN ?_ _ | refine blk_drew ?_ | refine blk_alloc ?_ _)); exact BK181.out)) : gb182 ≠ gb181)); clear HO174; clear HO177; clear BK180; clear BK181; clear HB; have HO174 := n0_; have HO177 := n1_; have BK180 := n2_; have BK181 := n3_; have HB := n4_; have BK182 := n5_; have GW182 := n6_; have GE182 := n7_; have NB180_182 := n8_; have NB182_180 := n9_; have NB181_182 := n10_; have NB182_181 := n11_; clear n0_ n1_ n2_ n3_ n4_ n5_ n6_ n7_ n8_ n9_ n10_ n11_; clear hb hbox hg; have hnb12 := NB181_180.out; have hnc12 := NB180_181.out; have hnb13 := NB181_182.out; have hnc13 := NB182_181.out; have hcz14_0 : w11.cell? ⟨gb181, 0, none⟩ = some (.int .u8 0) := (blk_cell BK181.out 0).trans rfl; have hcz14_1 : w11.cell? ⟨gb181, 1, none⟩ = some (.int .u8 0) := (blk_cell BK181.out 1).trans rfl; have hfz14_0 := blk_frozen BK181.out 0; have hfz14_1 := blk_frozen BK181.out 1; have hnb15 := NB182_180.out; have hnc15 := NB180_182.out; have hcz16_0 : w11.cell? ⟨gb182, 0, none⟩ = some (.int .u8 0) := (blk_cell BK182.out 0).trans rfl; have hcz16_1 : w11.cell? ⟨gb182, 1, none⟩ = some (.int .u8 0) := (blk_cell BK182.out 1).trans rfl; have hfz16_0 := blk_frozen BK182.out 0; have hfz16_1 := blk_frozen BK182.out 1; have hcz17_0 : w11.cell? ⟨gb180, 0, none⟩ = some (.int .i64 t178) := (blk_cell BK180.out 0).trans rfl; have hcz17_1 : w11.cell? ⟨gb180, 1, none⟩ = some (.int .i64 t179) := (blk_cell BK180.out 1).trans rfl; have hfz17_0 := blk_frozen BK180.out 0; have hfz17_1 := blk_frozen BK180.out 1) | ((with_reducible refine gate_dst (N := 22) rfl ?_); (try (refine gate_guard (by rfl) ?_; dsimp only)); refine Kd.R_lit k55 _ 55 ?hg (N := 22) ?hd (xs := ([(⟨2, 0⟩ : S55), (⟨2, 1⟩ : S55), (⟨15, 0⟩ : S55), (⟨2, 0⟩ : S55), (⟨11, 0⟩ : S55)] : List (S55))) (inner := [.int .u8 2, .int .u8 0, .int .u8 2, .int .u8 1, .int .u8 15, .int .u8 0, .int .u8 2, .int .u8 0, .int .u8 11, .int .u8 0]) (ok := fun _ => True) (okp := fun _ => True) ?hr ?hp (fun _ hk => hk) trivial (Below.refl _ _) (Nat.le_refl _) (by simp) ?_; (case hd => rfl); (case hg => rfl); (case hr => first | (go_simp; done) | (go_simp; rfl)); (case hp => exact (Reps.c2 (show Kd.M k55 _ _ _ (⟨2, 0⟩ : S55) [.int .u8 2, .int .u8 0] from (k55_mkM _ _ _ (⟨2, 0⟩ : S55) )) (Reps.c2 (show Kd.M k55 _ _ _ (⟨2, 1⟩ : S55) [.int .u8 2, .int .u8 1] from (k55_mkM _ _ _ (⟨2, 1⟩ : S55) )) (Reps.c2 (show Kd.M k55 _ _ _ (⟨15, 0⟩ : S55) [.int .u8 15, .int .u8 0] from (k55_mkM _ _ _ (⟨15, 0⟩ : S55) )) (Reps.c2 (show Kd.M k55 _ _ _ (⟨2, 0⟩ : S55) [.int .u8 2, .int .u8 0] from (k55_mkM _ _ _ (⟨2, 0⟩ : S55) )) (Reps.c2 (show Kd.M k55 _ _ _ (⟨11, 0⟩ : S55) [.int .u8 11, .int .u8 0] from (k55_mkM _ _ _ (⟨11, 0⟩ : S55) )) (Reps.none _ _))))))); intro v184 w18 ho19 hb hg_ hnew_; clear hg_ hnew_; (first | rw [← Ny183.out] at ho19 | (simp only [Int.reduceToNat] at ho19; rw [← Ny183.out] at ho19)); have n0_ := Aside0.mk (Kd.R_below (by (with_reducible repeat (first | apply Kd.R_alloc | apply Kd.R_drewN | apply Kd.R_drew)); exact (Kd.R_mono (Kd.R_mono (Kd.R_far (p := ⟨gb182, 1, none⟩) (Kd.R_far (p := ⟨gb182, 0, none⟩) (Kd.R_far (p := ⟨gb181, 1, none⟩) (Kd.R_far (p := ⟨gb181, 0, none⟩) (Kd.R_types (Kd.R_types HO174.out BK181.out (by decide)) BK182.out (by decide)) (fun _ hk => hk.1.2) (.int .u8 2)) (fun _ hk => hk.1.2) (.int .u8 0)) (fun _ hk => hk.2) (.int .u8 2)) (fun _ hk => hk.2) (.int .u8 1)) (fun _ h_ => h_.1)) (fun _ h_ => h_.1))) hb); have n1_ := Aside0.mk (Kd.R_elder' (by (with_reducible repeat (first | apply Kd.R_alloc | apply Kd.R_drewN | apply Kd.R_drew)); exact (Kd.R_mono (Kd.R_mono (Kd.R_far (p := ⟨gb182, 1, none⟩) (Kd.R_far (p := ⟨gb182, 0, none⟩) (Kd.R_far (p := ⟨gb181, 1, none⟩) (Kd.R_far (p := ⟨gb181, 0, none⟩) (Kd.R_mono (Kd.R_mono HO177.out (fun k_ hk => (⟨hk, hk.1.2⟩ : _ ∧ k_ ≠ gb181))) (fun k_ hk => (⟨hk, hk.1.2⟩ : _ ∧ k_ ≠ gb182))) (fun _ hk => hk.1.2) (.int .u8 2)) (fun _ hk => hk.1.2) (.int .u8 0)) (fun _ hk => hk.2) (.int .u8 2)) (fun _ hk => hk.2) (.int .u8 1)) (fun _ h_ => h_.1)) (fun _ h_ => h_.1))) (Kd.R_base ho19) hb); have n2_ := Aside0.mk (Kd.R_lower (Kd.R_newB (Kd.R_newB (Kd.R_new' ho19 (Kd.R_lt (by (with_reducible repeat (first | apply Kd.R_alloc | apply Kd.R_drewN | apply Kd.R_drew)); exact (Kd.R_mono (Kd.R_mono (Kd.R_far (p := ⟨gb182, 1, none⟩) (Kd.R_far (p := ⟨gb182, 0, none⟩) (Kd.R_far (p := ⟨gb181, 1, none⟩) (Kd.R_far (p := ⟨gb181, 0, none⟩) (Kd.R_mono (Kd.R_mono HO177.out (fun k_ hk => (⟨hk, hk.1.2⟩ : _ ∧ k_ ≠ gb181))) (fun k_ hk => (⟨hk, hk.1.2⟩ : _ ∧ k_ ≠ gb182))) (fun _ hk => hk.1.2) (.int .u8 2)) (fun _ hk => hk.1.2) (.int .u8 0)) (fun _ hk => hk.2) (.int .u8 2)) (fun _ hk => hk.2) (.int .u8 1)) (fun _ h_ => h_.1)) (fun _ h_ => h_.1))))) (g := gb181) (o := .cells #[.int .u8 2, .int .u8 0] 55 (0, 0)) (by (with_reducible repeat (first | refine blk_drewN ?_ _ | refine blk_drew ?_ | refine blk_alloc ?_ _)); refine blk_far ?_ NB181_182.out _; (with_reducible repeat (first | refine blk_drewN ?_ _ | refine blk_drew ?_ | refine blk_alloc ?_ _)); refine blk_far ?_ NB181_182.out _; (with_reducible repeat (first | refine blk_drewN ?_ _ | refine blk_drew ?_ | refine blk_alloc ?_ _)); refine blk_put (cs := #[.int .u8 2, .int .u8 0]) ?_ 1 _ rfl; (with_reducible repeat (first | refine blk_drewN ?_ _ | refine blk_drew ?_ | refine blk_alloc ?_ _)); refine blk_put (cs := #[.int .u8 0, .int .u8 0]) ?_ 0 _ rfl; (with_reducible repeat (first | refine blk_drewN ?_ _ | refine blk_drew ?_ | refine blk_alloc ?_ _)); exact BK181.out)) (g := gb182) (o := .cells #[.int .u8 2, .int .u8 1] 55 (0, 0)) (by (with_reducible repeat (first | refine blk_drewN ?_ _ | refine blk_drew ?_ | refine blk_alloc ?_ _)); refine blk_put (cs := #[.int .u8 2, .int .u8 0]) ?_ 1 _ rfl; (with_reducible repeat (first | refine blk_drewN ?_ _ | refine blk_drew ?_ | refine blk_alloc ?_ _)); refine blk_put (cs := #[.int .u8 0, .int .u8 0]) ?_ 0 _ rfl; (with_reducible repeat (first | refine blk_drewN ?_ _ | refine blk_drew ?_ | refine blk_alloc ?_ _)); refine blk_far ?_ NB182_181.out _; (with_reducible repeat (first | refine blk_drewN ?_ _ | refine blk_drew ?_ | refine blk_alloc ?_ _)); refine blk_far ?_ NB182_181.out _; (with_reducible repeat (first | refine blk_drewN ?_ _ | refine blk_drew ?_ | refine blk_alloc ?_ _)); exact BK182.out)) (below_size (by repeat (first | (with_reducible first | exact HB.out | apply below_alloc | apply pw_below_drewN | apply below_drew1 | refine below_set ?_ GE180.out | refine below_set ?_ GE181.out | refine below_set ?_ GE182.out) | exact HB.out)))); have n3_ := Aside0.mk (blk_below (g := gb180) (o := .cells #[.int .i64 t178, .int .i64 t179] 26 (0, 0)) (by (with_reducible repeat (first | refine blk_drewN ?_ _ | refine blk_drew ?_ | refine blk_alloc ?_ _)); refine blk_far ?_ NB180_182.out _; (with_reducible repeat (first | refine blk_drewN ?_ _ | refine blk_drew ?_ | refine blk_alloc ?_ _)); refine blk_far ?_ NB180_182.out _; (with_reducible repeat (first | refine blk_drewN ?_ _ | refine blk_drew ?_ | refine blk_alloc ?_ _)); refine blk_far ?_ NB180_181.out _; (with_reducible repeat (first | refine blk_drewN ?_ _ | refine blk_drew ?_ | refine blk_alloc ?_ _)); refine blk_far ?_ NB180_181.out _; (with_reducible repeat (first | refine blk_drewN ?_ _ | refine blk_drew ?_ | refine blk_alloc ?_ _)); exact BK180.out) hb); have n4_ := Aside0.mk (blk_below (g := gb181) (o := .cells #[.int .u8 2, .int .u8 0] 55 (0, 0)) (by (with_reducible repeat (first | refine blk_drewN ?_ _ | refine blk_drew ?_ | refine blk_alloc ?_ _)); refine blk_far ?_ NB181_182.out _; (with_reducible repeat (first | refine blk_drewN ?_ _ | refine blk_drew ?_ | refine blk_alloc ?_ _)); refine blk_far ?_ NB181_182.out _; (with_reducible repeat (first | refine blk_drewN ?_ _ | refine blk_drew ?_ | refine blk_alloc ?_ _)); refine blk_put (cs := #[.int .u8 2, .int .u8 0]) ?_ 1 _ rfl; (with_reducible repeat (first | refine blk_drewN ?_ _ | refine blk_drew ?_ | refine blk_alloc ?_ _)); refine blk_put (cs := #[.int .u8 0, .int .u8 0]) ?_ 0 _ rfl; (with_reducible repeat (first | refine blk_drewN ?_ _ | refine blk_drew ?_ | refine blk_alloc ?_ _)); exact BK181.out) hb); have n5_ := Aside0.mk (blk_below (g := gb182) (o := .cells #[.int .u8 2, .int .u8 1] 55 (0, 0)) (by (with_reducible repeat (first | refine blk_drewN ?_ _ | refine blk_drew ?_ | refine blk_alloc ?_ _)); refine blk_put (cs := #[.int .u8 2, .int .u8 0]) ?_ 1 _ rfl; (with_reducible repeat (first | refine blk_drewN ?_ _ | refine blk_drew ?_ | refine blk_alloc ?_ _)); refine blk_put (cs := #[.int .u8 0, .int .u8 0]) ?_ 0 _ rfl; (with_reducible repeat (first | refine blk_drewN ?_ _ | refine blk_drew ?_ | refine blk_alloc ?_ _)); refine blk_far ?_ NB182_181.out _; (with_reducible repeat (first | refine blk_drewN ?_ _ | refine blk_drew ?_ | refine blk_alloc ?_ _)); refine blk_far ?_ NB182_181.out _; (with_reducible repeat (first | refine blk_drewN ?_ _ | refine blk_drew ?_ | refine blk_alloc ?_ _)); exact BK182.out) hb); have n6_ := Aside0.mk (below_step (by repeat (first | (with_reducible first | exact HB.out | apply below_alloc | apply pw_below_drewN | apply below_drew1 | refine below_set ?_ GE180.out | refine below_set ?_ GE181.out | refine below_set ?_ GE182.out) | exact HB.out)) hb); clear HO174; clear HO177; clear BK180; clear BK181; clear BK182; clear HB; have HO174 := n0_; have HO177 := n1_; have HO185 := n2_; have BK180 := n3_; have BK181 := n4_; have BK182 := n5_; have HB := n6_; clear n0_ n1_ n2_ n3_ n4_ n5_ n6_; clear hb ho19; obtain ⟨Ao20, co20, eo20⟩ := Kd.R_slice HO177.out; subst eo20; obtain ⟨Ao21, co21, eo21⟩ := Kd.R_slice HO185.out; subst eo21) | (go_at_call 27; (with_reducible refine (rejoinderkit_SameToks.calls k _ _ t175 _ _ y183 t186 _ ?side1 ?side2 ?side3 ?side4 A3.out).mono ?_); (case side1 => repeat (first | exact (Kd.R_reads' HO177.out).2.2 | (with_reducible refine Kd.C_alloc ?_ _) | (with_reducible refine Kd.C_drewN ?_ _) | (with_reducible refine Kd.C_drew ?_))); (case side2 => exact (Kd.R_reads' HO177.out).2.1); (case side3 => repeat (first | exact (Kd.R_reads' HO185.out).2.2 | (with_reducible refine Kd.C_alloc ?_ _) | (with_reducible refine Kd.C_drewN ?_ _) | (with_reducible refine Kd.C_drew ?_))); (case side4 => exact (Kd.R_reads' HO185.out).2.1); rintro e w' ⟨rfl, ⟨nd, rfl⟩⟩))
    go_ret
    exact ⟨by first | rfl | (simp [errW_none, errW_some] <;> rfl) | (simp [*, errW_none, errW_some] <;> rfl), by repeat (first | (with_reducible first | exact HB.out | apply below_alloc | apply pw_below_drewN | apply below_drew1 | refine below_set ?_ GE180.out | refine below_set ?_ GE181.out | refine below_set ?_ GE182.out) | exact HB.out)⟩
  · rw [if_neg c2] at H
    have c2b0 : (t178 == 0 && (t179 == 0)) = false := by simpa using c2
    (try (have c2b1 : decide (t178 = 0 && (t179 == 0)) = false := by simpa using c2))
    (try (have c2b2 : (t178 == 0 && (t179 == 0)) = false := by simpa using c2))
    (try (have c2b3 : ¬ (t178 = 0 && (t179 == 0)) := by simpa using c2))
    clear c2
    obtain rfl := Option.some.inj H
    go_enter Tryd.func25, Tryd.ntmps25
    go_wp2_with (first | ((with_reducible refine gate_dst (N := 6) rfl ?_); (try (refine gate_guard (by rfl) ?_; dsimp only)); refine Kd.R_lit Kd.string _ 9 ?hg (N := 6) ?hd (xs := ([(⟨#[112]⟩ : ByteArray), (⟨#[113]⟩ : ByteArray)] : List ByteArray)) (inner := [.string (⟨#[112]⟩ : ByteArray), .string (⟨#[113]⟩ : ByteArray)]) (ok := fun _ => True) (okp := fun _ => True) ?hr ?hp (fun _ hk => hk) trivial (Below.refl _ _) (Nat.le_refl _) (by simp) ?_; (case hd => rfl); (case hg => rfl); (case hr => first | (go_simp; done) | (go_simp; rfl)); (case hp => exact (Reps.one (show Kd.M Kd.string _ _ _ (⟨#[112]⟩ : ByteArray) [.string (⟨#[112]⟩ : ByteArray)] from rfl) (Reps.one (show Kd.M Kd.string _ _ _ (⟨#[113]⟩ : ByteArray) [.string (⟨#[113]⟩ : ByteArray)] from rfl) (Reps.none _ _)))); intro v173 w22 ho23 hb hg_ hnew_; clear hg_ hnew_; (first | rw [← Ny172.out] at ho23 | (simp only [Int.reduceToNat] at ho23; rw [← Ny172.out] at ho23)); have n0_ := Aside0.mk (Kd.R_lower ho23 (below_size (by repeat (first | (with_reducible first | exact HB.out | apply below_alloc | apply pw_below_drewN | apply below_drew1) | exact HB.out)))); have n1_ := Aside0.mk (below_step (by repeat (first | (with_reducible first | exact HB.out | apply below_alloc | apply pw_below_drewN | apply below_drew1) | exact HB.out)) hb); clear HB; have HO174 := n0_; have HB := n1_; clear n0_ n1_; clear hb ho23; obtain ⟨Ao24, co24, eo24⟩ := Kd.R_slice HO174.out; subst eo24) | ((with_reducible refine gate_callee (f := 26) rfl ?_); refine goesL_ (some 7) rfl rfl Tryd.func26 (by kernel_rfl) rfl #[.slice Ao24 y172.length co24, .string (⟨#[112, 32, 85, 32, 113, 32, 38, 32, 112]⟩ : ByteArray)] rfl (by (try simp only [List.map_toArray, List.map_cons, List.map_nil]); first | done | rfl | (simp only [List.length_drop, List.length_take]; rfl)) ?_; (with_reducible refine (parse_Formula.calls _ _ y172 (⟨#[112, 32, 85, 32, 113, 32, 38, 32, 112]⟩ : ByteArray) t175 t178 t179 _ ?side1 ?side2 A1.out).mono ?_); (case side1 => repeat (first | exact (Kd.R_reads' HO174.out).2.2 | (with_reducible refine Kd.C_alloc ?_ _) | (with_reducible refine Kd.C_drewN ?_ _) | (with_reducible refine Kd.C_drew ?_))); (case side2 => exact (Kd.R_reads' HO174.out).2.1); rintro e w25 ⟨v176, rfl, ho0, hb⟩; refine ⟨_, rfl, ?_⟩; have n0_ := Aside0.mk (Kd.R_below (by (with_reducible repeat (first | apply Kd.R_alloc | apply Kd.R_drewN | apply Kd.R_drew)); exact HO174.out) hb); have n1_ := Aside0.mk (Kd.R_lower ho0 (below_size (by repeat (first | (with_reducible first | exact HB.out | apply below_alloc | apply pw_below_drewN | apply below_drew1) | exact HB.out)))); have n2_ := Aside0.mk (below_step (by repeat (first | (with_reducible first | exact HB.out | apply below_alloc | apply pw_below_drewN | apply below_drew1) | exact HB.out)) hb); clear HO174; clear HB; have HO174 := n0_; have HO177 := n1_; have HB := n2_; clear n0_ n1_ n2_; (try clear hb); (try clear hb2); (try clear hk); (try clear hi); (try clear ho0)) | ((with_reducible refine gate_dst (N := 2) rfl ?_); (try (refine gate_guard (by rfl) ?_; dsimp only)); refine box_event ?hg (N := 2) ?hd (cs := #[.int .i64 0, .int .i64 0]) (t := 26) ?hr ?_; (case hd => rfl); (case hg => rfl); (case hr => first | (go_simp; done) | (go_simp; rfl)); intro gb180 hg w26 hbox hb; have n0_ := Aside0.mk (Kd.R_below (by (with_reducible repeat (first | apply Kd.R_alloc | apply Kd.R_drewN | apply Kd.R_drew)); exact HO174.out) hb); have n1_ := Aside0.mk (Kd.R_below (by (with_reducible repeat (first | apply Kd.R_alloc | apply Kd.R_drewN | apply Kd.R_drew)); exact HO177.out) hb); have n2_ := Aside0.mk (below_step (by repeat (first | (with_reducible first | exact HB.out | apply below_alloc | apply pw_below_drewN | apply below_drew1) | exact HB.out)) hb); have n3_ := Aside0.mk (hbox); have n4_ := Aside0.mk ((by rw [hg]; exact (below_size (by repeat (first | (with_reducible first | exact HB.out | apply below_alloc | apply pw_below_drewN | apply below_drew1) | exact HB.out))) : w.heap.size ≤ gb180)); have n5_ := Aside0.mk ((by rw [hg]; exact (below_size (by repeat (first | (with_reducible first | exact HB.out | apply below_alloc | apply pw_below_drewN | apply below_drew1) | exact HB.out))) : w.heap.size ≤ gb180)); clear HO174; clear HO177; clear HB; have HO174 := n0_; have HO177 := n1_; have HB := n2_; have BK180 := n3_; have GW180 := n4_; have GE180 := n5_; clear n0_ n1_ n2_ n3_ n4_ n5_; clear hb hbox hg; have hcz27_0 : w26.cell? ⟨gb180, 0, none⟩ = some (.int .i64 0) := (blk_cell BK180.out 0).trans rfl; have hcz27_1 : w26.cell? ⟨gb180, 1, none⟩ = some (.int .i64 0) := (blk_cell BK180.out 1).trans rfl; have hfz27_0 := blk_frozen BK180.out 0; have hfz27_1 := blk_frozen BK180.out 1) | ((with_reducible refine gate_dst (N := 3) rfl ?_); (try (refine gate_guard (by rfl) ?_; dsimp only)); refine box_event ?hg (N := 3) ?hd (cs := #[.int .u8 0, .int .u8 0]) (t := 55) ?hr ?_; (case hd => rfl); (case hg => rfl); (case hr => first | (go_simp; done) | (go_simp; rfl)); intro gb181 hg w28 hbox hb; have n0_ := Aside0.mk (Kd.R_below (by (with_reducible repeat (first | apply Kd.R_alloc | apply Kd.R_drewN | apply Kd.R_drew)); exact (Kd.R_mono (Kd.R_far (p := ⟨gb180, 1, none⟩) (Kd.R_far (p := ⟨gb180, 0, none⟩) (Kd.R_types HO174.out BK180.out (by decide)) (fun _ hk => hk.2) (.int .i64 t178)) (fun _ hk => hk.2) (.int .i64 t179)) (fun _ h_ => h_.1))) hb); have n1_ := Aside0.mk (Kd.R_below (Kd.R_elderB (by (with_reducible repeat (first | apply Kd.R_alloc | apply Kd.R_drewN | apply Kd.R_drew)); exact (Kd.R_mono (Kd.R_far (p := ⟨gb180, 1, none⟩) (Kd.R_far (p := ⟨gb180, 0, none⟩) (Kd.R_types HO177.out BK180.out (by decide)) (fun _ hk => hk.2) (.int .i64 t178)) (fun _ hk => hk.2) (.int .i64 t179)) (fun _ h_ => h_.1))) gb181 (Nat.le_of_eq hg.symm)) hb); have n2_ := Aside0.mk (blk_below (g := gb180) (o := .cells #[.int .i64 t178, .int .i64 t179] 26 (0, 0)) (by (with_reducible repeat (first | refine blk_drewN ?_ _ | refine blk_drew ?_ | refine blk_alloc ?_ _)); refine blk_put (cs := #[.int .i64 t178, .int .i64 0]) ?_ 1 _ rfl; (with_reducible repeat (first | refine blk_drewN ?_ _ | refine blk_drew ?_ | refine blk_alloc ?_ _)); refine blk_put (cs := #[.int .i64 0, .int .i64 0]) ?_ 0 _ rfl; (with_reducible repeat (first | refine blk_drewN ?_ _ | refine blk_drew ?_ | refine blk_alloc ?_ _)); exact BK180.out) hb); have n3_ := Aside0.mk (below_step (by repeat (first | (with_reducible first | exact HB.out | apply below_alloc | apply pw_below_drewN | apply below_drew1 | refine below_set ?_ GE180.out) | exact HB.out)) hb); have n4_ := Aside0.mk (hbox); have n5_ := Aside0.mk ((by rw [hg]; exact (below_size (by repeat (first | (with_reducible first | exact HB.out | apply below_alloc | apply pw_below_drewN | apply below_drew1 | refine below_set ?_ GE180.out) | exact HB.out))) : w.heap.size ≤ gb181)); have n6_ := Aside0.mk ((by rw [hg]; exact (below_size (by repeat (first | (with_reducible first | exact HB.out | apply below_alloc | apply pw_below_drewN | apply below_drew1 | refine below_set ?_ GE180.out) | exact HB.out))) : w.heap.size ≤ gb181)); have n7_ := Aside0.mk ((by rw [hg]; exact Nat.ne_of_lt (blk_lt (g := gb180) (o := .cells #[.int .i64 t178, .int .i64 t179] 26 (0, 0)) (by (with_reducible repeat (first | refine blk_drewN ?_ _ | refine blk_drew ?_ | refine blk_alloc ?_ _)); refine blk_put (cs := #[.int .i64 t178, .int .i64 0]) ?_ 1 _ rfl; (with_reducible repeat (first | refine blk_drewN ?_ _ | refine blk_drew ?_ | refine blk_alloc ?_ _)); refine blk_put (cs := #[.int .i64 0, .int .i64 0]) ?_ 0 _ rfl; (with_reducible repeat (first | refine blk_drewN ?_ _ | refine blk_drew ?_ | refine blk_alloc ?_ _)); exact BK180.out)) : gb180 ≠ gb181)); have n8_ := Aside0.mk ((by rw [hg]; exact Nat.ne_of_gt (blk_lt (g := gb180) (o := .cells #[.int .i64 t178, .int .i64 t179] 26 (0, 0)) (by (with_reducible repeat (first | refine blk_drewN ?_ _ | refine blk_drew ?_ | refine blk_alloc ?_ _)); refine blk_put (cs := #[.int .i64 t178, .int .i64 0]) ?_ 1 _ rfl; (with_reducible repeat (first | refine blk_drewN ?_ _ | refine blk_drew ?_ | refine blk_alloc ?_ _)); refine blk_put (cs := #[.int .i64 0, .int .i64 0]) ?_ 0 _ rfl; (with_reducible repeat (first | refine blk_drewN ?_ _ | refine blk_drew ?_ | refine blk_alloc ?_ _)); exact BK180.out)) : gb181 ≠ gb180)); clear HO174; clear HO177; clear BK180; clear HB; have HO174 := n0_; have HO177 := n1_; have BK180 := n2_; have HB := n3_; have BK181 := n4_; have GW181 := n5_; have GE181 := n6_; have NB180_181 := n7_; have NB181_180 := n8_; clear n0_ n1_ n2_ n3_ n4_ n5_ n6_ n7_ n8_; clear hb hbox hg) | ((with_reducible refine gate_dst (N := 4) rfl ?_); (try (refine gate_guard (by rfl) ?_; dsimp only)); refine box_event ?hg (N := 4) ?hd (cs := #[.int .u8 0, .int .u8 0]) (t := 55) ?hr ?_; (case hd => rfl); (case hg => rfl); (case hr => first | (go_simp; done) | (go_simp; rfl)); intro gb182 hg w29 hbox hb; have n0_ := Aside0.mk (Kd.R_below (by (with_reducible repeat (first | apply Kd.R_alloc | apply Kd.R_drewN | apply Kd.R_drew)); exact HO174.out) hb); have n1_ := Aside0.mk (Kd.R_below (Kd.R_elderB (by (with_reducible repeat (first | apply Kd.R_alloc | apply Kd.R_drewN | apply Kd.R_drew)); exact HO177.out) gb182 (Nat.le_of_eq hg.symm)) hb); have n2_ := Aside0.mk (blk_below (g := gb180) (o := .cells #[.int .i64 t178, .int .i64 t179] 26 (0, 0)) (by (with_reducible repeat (first | refine blk_drewN ?_ _ | refine blk_drew ?_ | refine blk_alloc ?_ _)); exact BK180.out) hb); have n3_ := Aside0.mk (blk_below (g := gb181) (o := .cells #[.int .u8 0, .int .u8 0] 55 (0, 0)) (by (with_reducible repeat (first | refine blk_drewN ?_ _ | refine blk_drew ?_ | refine blk_alloc ?_ _)); exact BK181.out) hb); have n4_ := Aside0.mk (below_step (by repeat (first | (with_reducible first | exact HB.out | apply below_alloc | apply pw_below_drewN | apply below_drew1 | refine below_set ?_ GE180.out | refine below_set ?_ GE181.out) | exact HB.out)) hb); have n5_ := Aside0.mk (hbox); have n6_ := Aside0.mk ((by rw [hg]; exact (below_size (by repeat (first | (with_reducible first | exact HB.out | apply below_alloc | apply pw_below_drewN | apply below_drew1 | refine below_set ?_ GE180.out | refine below_set ?_ GE181.out) | exact HB.out))) : w.heap.size ≤ gb182)); have n7_ := Aside0.mk ((by rw [hg]; exact (below_size (by repeat (first | (with_reducible first | exact HB.out | apply below_alloc | apply pw_below_drewN | apply below_drew1 | refine below_set ?_ GE180.out | refine below_set ?_ GE181.out) | exact HB.out))) : w.heap.size ≤ gb182)); have n8_ := Aside0.mk ((by rw [hg]; exact Nat.ne_of_lt (blk_lt (g := gb180) (o := .cells #[.int .i64 t178, .int .i64 t179] 26 (0, 0)) (by (with_reducible repeat (first | refine blk_drewN ?_ _ | refine blk_drew ?_ | refine blk_alloc ?_ _)); exact BK180.out)) : gb180 ≠ gb182)); have n9_ := Aside0.mk ((by rw [hg]; exact Nat.ne_of_gt (blk_lt (g := gb180) (o := .cells #[.int .i64 t178, .int .i64 t179] 26 (0, 0)) (by (with_reducible repeat (first | refine blk_drewN ?_ _ | refine blk_drew ?_ | refine blk_alloc ?_ _)); exact BK180.out)) : gb182 ≠ gb180)); have n10_ := Aside0.mk ((by rw [hg]; exact Nat.ne_of_lt (blk_lt (g := gb181) (o := .cells #[.int .u8 0, .int .u8 0] 55 (0, 0)) (by (with_reducible repeat (first | refine blk_drewN ?_ _ | refine blk_drew ?_ | refine blk_alloc ?_ _)); exact BK181.out)) : gb181 ≠ gb182)); have n11_ := Aside0.mk ((by rw [hg]; exact Nat.ne_of_gt (blk_lt (g := gb181) (o := .cells #[.int .u8 0, .int .u8 0] 55 (0, 0)) (by (with_reducible repeat (first | refine blk_drewN ?_ _ | refine blk_drew ?_ | refine blk_alloc ?_ _)); exact BK181.out)) : gb182 ≠ gb181)); clear HO174; clear HO177; clear BK180; clear BK181; clear HB; have HO174 := n0_; have HO177 := n1_; have BK180 := n2_; have BK181 := n3_; have HB := n4_; have BK182 := n5_; have GW182 := n6_; have GE182 := n7_; have NB180_182 := n8_; have NB182_180 := n9_; have NB181_182 := n10_; have NB182_181 := n11_; clear n0_ n1_ n2_ n3_ n4_ n5_ n6_ n7_ n8_ n9_ n10_ n11_; clear hb hbox hg; have hnb30 := NB181_180.out; have hnc30 := NB180_181.out; have hnb31 := NB181_182.out; have hnc31 := NB182_181.out; have hcz32_0 : w29.cell? ⟨gb181, 0, none⟩ = some (.int .u8 0) := (blk_cell BK181.out 0).trans rfl; have hcz32_1 : w29.cell? ⟨gb181, 1, none⟩ = some (.int .u8 0) := (blk_cell BK181.out 1).trans rfl; have hfz32_0 := blk_frozen BK181.out 0; have hfz32_1 := blk_frozen BK181.out 1; have hnb33 := NB182_180.out; have hnc33 := NB180_182.out; have hcz34_0 : w29.cell? ⟨gb182, 0, none⟩ = some (.int .u8 0) := (blk_cell BK182.out 0).trans rfl; have hcz34_1 : w29.cell? ⟨gb182, 1, none⟩ = some (.int .u8 0) := (blk_cell BK182.out 1).trans rfl; have hfz34_0 := blk_frozen BK182.out 0; have hfz34_1 := blk_frozen BK182.out 1; have hcz35_0 : w29.cell? ⟨gb180, 0, none⟩ = some (.int .i64 t178) := (blk_cell BK180.out 0).trans rfl; have hcz35_1 : w29.cell? ⟨gb180, 1, none⟩ = some (.int .i64 t179) := (blk_cell BK180.out 1).trans rfl; have hfz35_0 := blk_frozen BK180.out 0; have hfz35_1 := blk_frozen BK180.out 1))
    go_ret
    exact ⟨by first | rfl | (simp [errW_none, errW_some] <;> rfl) | (simp [*, errW_none, errW_some] <;> rfl), by repeat (first | (with_reducible first | exact HB.out | apply below_alloc | apply pw_below_drewN | apply below_drew1 | refine below_set ?_ GE180.out | refine below_set ?_ GE181.out | refine below_set ?_ GE182.out) | exact HB.out)⟩
end Go.Proofs.YtaogoabnidbbpaaDoor.PText
