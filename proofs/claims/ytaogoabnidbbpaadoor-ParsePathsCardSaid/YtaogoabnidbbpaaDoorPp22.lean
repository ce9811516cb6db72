/- Texts of this work merged into one file, what the law does not need left out: TextRead; TextReadRun; TextReadAll; PTextF; PTextG; PTextH; TextPathsLaw. Conditions stand in each law. -/
import Derived.Below
import Derived.Deep.Draws
import Derived.Deep.AppendLies
import Derived.Maps.AppendAt
import Derived.OwnWalk
import Derived.Laws.BytesArg
import Derived.Laws.MakeOwn
import Derived.Laws.OwnMore
import Derived.Deep.OwnRows
import Derived.Tactics
import Derived.Lib.ConvBytes
import Derived.Laws.Slices
import Derived.WalkKit
import Derived.KernelRfl
import Derived.RowKit3
import Derived.Deep.LoopGhost
import Derived.Deep.QuietTactic
import Derived.BigQuiet
import Derived.WideLaws
import Derived.Deep.DeepCutAuto
import Derived.Deep.CutBlock
import Derived.Deep.RegionHeld3
import Derived.Laws.Rows
import Derived.Lib.AppendStr
import Derived.ArgAppend
import Derived.Laws.IdiomCopy
import Derived.RowKit
import Derived.OrdersHeld
import Derived.Laws.BitsLemmas
import Derived.Laws.StructEq
import Derived.Test.YtaogoabnidbbpaaDoorProg
import Derived.Shelf.Strings.Builder1
import Derived.Shelf.Strings.BuilderF
import Derived.Shelf.Strings.BuilderK
import Derived.Shelf.Strings.Fields
import Derived.Lib.SmallJoins
import Derived.BigCall
import Derived.WalkMore
import Derived.Lib.OthersKept
import Derived.Lib.FrozenHead
import Derived.WalkSmall
import Derived.Maps.OwnOps
import Derived.Maps.Views
import Derived.Defers
import Derived.Recover
import Derived.Test.YtaogoabnidbbpaaDoorPp1
import Derived.Test.YtaogoabnidbbpaaDoorPp2
import Derived.Test.YtaogoabnidbbpaaDoorPp3
import Derived.Test.YtaogoabnidbbpaaDoorPp4
import Derived.Test.YtaogoabnidbbpaaDoorPp5
import Derived.Test.YtaogoabnidbbpaaDoorPp6
import Derived.Test.YtaogoabnidbbpaaDoorPp7
import Derived.Test.YtaogoabnidbbpaaDoorPp8
import Derived.Test.YtaogoabnidbbpaaDoorPp9
import Derived.Test.YtaogoabnidbbpaaDoorPp10
import Derived.Test.YtaogoabnidbbpaaDoorPp11
import Derived.Test.YtaogoabnidbbpaaDoorPp12
import Derived.Test.YtaogoabnidbbpaaDoorPp13
import Derived.Test.YtaogoabnidbbpaaDoorPp14
import Derived.Test.YtaogoabnidbbpaaDoorPp15
import Derived.Test.YtaogoabnidbbpaaDoorPp16
import Derived.Test.YtaogoabnidbbpaaDoorPp17
import Derived.Test.YtaogoabnidbbpaaDoorPp18
import Derived.Test.YtaogoabnidbbpaaDoorPp19
import Derived.Test.YtaogoabnidbbpaaDoorPp20
import Derived.Test.YtaogoabnidbbpaaDoorPp21
/-! TextRead -/
namespace Go.Proofs.YtaogoabnidbbpaaDoor.PText
open Go.RowKit Go.Proofs.YtaogoabnidbbpaaDoorW.PrintWords Go.Proofs.YtaogoabnidbbpaaDoorW.PrintLast Go.Proofs.YtaogoabnidbbpaaDoorW.PrintMore Go.Proofs.YtaogoabnidbbpaaDoorW.Aid
set_option linter.unusedVariables false
/-- The two variables of the results, in a world: what they hold. -/
def Cells (w0 : World) (a b c : Value) (W : World) : Prop := W.heap[w0.heap.size]? = some (.cells #[a] 46 (0, 0)) ∧ W.heap[w0.heap.size + 1]? = some (.cells #[b, c] 26 (0, 0)) ∧ Below w0.heap.size w0 W
theorem Cells.below {w0 W W2 : World} {a b c : Value} (h : Cells w0 a b c W) (hb : Below W.heap.size W W2) : Cells w0 a b c W2 := ⟨blk_below h.1 hb, blk_below h.2.1 hb, below_step h.2.2 hb⟩
theorem Cells.start (w0 : World) (a b c : Value) : Cells w0 a b c ((w0.alloc (.cells #[a] 46 (0, 0))).alloc (.cells #[b, c] 26 (0, 0))) := ⟨blk_alloc (blk_new _ _) _, blk_new1 _ _ _, below_alloc (below_alloc (Below.refl _ _) _) _⟩
theorem Cells.put0 {w0 W : World} {a b c : Value} (h : Cells w0 a b c W) (u : Value) : Cells w0 u b c (W.setCell ⟨w0.heap.size, 0, none⟩ u) := ⟨blk_put h.1 0 u rfl, blk_far h.2.1 (by show _ ≠ w0.heap.size; omega) u, below_set h.2.2 (Nat.le_refl _)⟩
theorem Cells.put1 {w0 W : World} {a b c : Value} (h : Cells w0 a b c W) (u : Value) : Cells w0 a u c (W.setCell ⟨w0.heap.size + 1, 0, none⟩ u) := ⟨blk_far h.1 (by show _ ≠ w0.heap.size + 1; omega) u, blk_put h.2.1 0 u rfl, below_set h.2.2 (Nat.le_succ _)⟩
theorem Cells.put2 {w0 W : World} {a b c : Value} (h : Cells w0 a b c W) (u : Value) : Cells w0 a b u (W.setCell ⟨w0.heap.size + 1, 1, none⟩ u) := ⟨blk_far h.1 (by show _ ≠ w0.heap.size + 1; omega) u, blk_put h.2.1 1 u rfl, below_set h.2.2 (Nat.le_succ _)⟩
theorem Cells.drew {w0 W : World} {a b c : Value} (h : Cells w0 a b c W) : Cells w0 a b c W.drew := ⟨blk_drew h.1, blk_drew h.2.1, below_drew1 h.2.2⟩
set_option maxRecDepth 100000 in
theorem read_results {w W : World} {a b c : Value} (h : Cells w a b c W) (tmps : Array Value) (h6 : (tmps[6]?).getD undef = .pointer (some ⟨w.heap.size, 0, none⟩)) (h7 : (tmps[7]?).getD undef = .pointer (some ⟨w.heap.size + 1, 0, none⟩)) :
    (results Tryd.f53 tmps).run Tryd.prog W = .ok (.tuple #[a, .agg #[b, c]]) W := by
  have p0 : W.cell? ⟨w.heap.size, 0, none⟩ = some a := (blk_cell h.1 0).trans rfl
  have q0 : W.cell? ⟨w.heap.size + 1, 0, none⟩ = some b := (blk_cell h.2.1 0).trans rfl
  have q1 : W.cell? ⟨w.heap.size + 1, 1, none⟩ = some c := (blk_cell h.2.1 1).trans rfl
  simp [results, Tryd.results53, go_sem, h6, h7, p0, q0, q1]
set_option maxHeartbeats 8000000 in
set_option maxRecDepth 100000 in
theorem read_names (A : Option Addr) (c : Nat) (names : List ByteArray) (s : ByteArray) (path : Bool) (w : World) (hr : Kd.C Kd.string w A names.length names) (hc : names.length ≤ c) (h0 : chk names ≠ 0) :
    Calls Tryd.prog 53 #[.slice A names.length c, .string s, .bool path] w fun e w' => e = .returned (.tuple #[.slice none 0 0, .agg #[.int .i64 (chk names), .int .i64 (-1)]]) ∧ Below w.heap.size w w' := by
  have HR := Aside0.mk hr
  have c1 : (chk names == 0) = false := beq_eq_false_iff_ne.2 h0
  have c2 : (chk names != 0) = true := bne_iff_ne.2 h0
  clear hr hc h0
  go_enter_defers Tryd.func53, Tryd.ntmps53
  go_wp2_with fail
  refine (check_calls A c names _ (Kd.C_alloc (Kd.C_alloc HR.out _) _)).mono ?_
  rintro e w3 ⟨rfl, hb⟩
  have HC := Aside0.mk ((Cells.start w _ _ _).below hb)
  clear hb HR
  have p0 : w3.cell? ⟨w.heap.size, 0, none⟩ = some (.slice none 0 0) := (blk_cell HC.out.1 0).trans rfl
  have q0 : w3.cell? ⟨w.heap.size + 1, 0, none⟩ = some (.int .i64 0) := (blk_cell HC.out.2.1 0).trans rfl
  have q1 : w3.cell? ⟨w.heap.size + 1, 1, none⟩ = some (.int .i64 0) := (blk_cell HC.out.2.1 1).trans rfl
  have fp := blk_frozen HC.out.1 0
  have fq := blk_frozen HC.out.2.1 0
  have fq1 := blk_frozen HC.out.2.1 1
  go_wp2
  have hC := (((HC.out.put0 (.slice none 0 0)).put1 (.int .i64 (chk names))).put2 (.int .i64 (-1)))
  exact ⟨_, read_results hC _ rfl rfl, rfl, hC.2.2⟩
set_option maxHeartbeats 8000000 in
set_option maxRecDepth 100000 in
theorem read_words1 (A : Option Addr) (c : Nat) (names : List ByteArray) (s : ByteArray) (path : Bool) (w : World) (hr : Kd.C Kd.string w A names.length names) (hc : names.length ≤ c) (h0 : chk names = 0) (k : Nat) (ws : List Wd) (er a : Int) (hk : lexis_Words.f k s = some (ws, er, a)) (hf : ¬ er = 0) (HT : Aside0 (Laid w)) :
    Calls Tryd.prog 53 #[.slice A names.length c, .string s, .bool path] w fun e w' => e = .returned (.tuple #[.slice none 0 0, .agg #[.int .i64 er, .int .i64 a]]) ∧ Below w.heap.size w w' := by
  have HR := Aside0.mk hr
  have HK := Aside0.mk hk
  have c1 : (chk names == 0) = true := beq_iff_eq.2 h0
  have c2 : (chk names != 0) = false := by simp [h0]
  have c3 := eq_false hf
  have c4 : decide (er = 0) = false := decide_eq_false hf
  have c5 : (er == 0) = false := beq_eq_false_iff_ne.2 hf
  clear hr hc h0 hk
  go_enter_defers Tryd.func53, Tryd.ntmps53
  go_wp2_with fail
  refine (check_calls A c names _ (Kd.C_alloc (Kd.C_alloc HR.out _) _)).mono ?_
  rintro e w3 ⟨rfl, hb⟩
  have HC := Aside0.mk ((Cells.start w _ _ _).below hb)
  clear hb HR
  go_wp2_with fail
  refine (lexis_Words.calls k s ws er a _ HK.out ⟨Laid.later HT.out HC.out.2.2⟩).mono ?_
  rintro e w4 ⟨vL, rfl, hr, hb⟩
  have HC4 := Aside0.mk (HC.out.below hb)
  clear hb hr HC
  have p0 : w4.cell? ⟨w.heap.size, 0, none⟩ = some (.slice none 0 0) := (blk_cell HC4.out.1 0).trans rfl
  have q0 : w4.cell? ⟨w.heap.size + 1, 0, none⟩ = some (.int .i64 0) := (blk_cell HC4.out.2.1 0).trans rfl
  have q1 : w4.cell? ⟨w.heap.size + 1, 1, none⟩ = some (.int .i64 0) := (blk_cell HC4.out.2.1 1).trans rfl
  have fp := blk_frozen HC4.out.1 0
  have fq := blk_frozen HC4.out.2.1 0
  have fq1 := blk_frozen HC4.out.2.1 1
  go_wp2
  go_region
  have hC := ((((HC4.out.put1 (.int .i64 er)).put2 (.int .i64 a)).put0 (.slice none 0 0)).put1 (.int .i64 er)).put2 (.int .i64 a)
  go_wp2
  exact ⟨_, read_results hC.drew _ rfl rfl, rfl, hC.drew.2.2⟩
set_option maxHeartbeats 8000000 in
set_option maxRecDepth 100000 in
theorem read_words2 (A : Option Addr) (c : Nat) (names : List ByteArray) (s : ByteArray) (path : Bool) (w : World) (hr : Kd.C Kd.string w A names.length names) (hc : names.length ≤ c) (h0 : chk names = 0) (k : Nat) (ws : List Wd) (a : Int) (hk : lexis_Words.f k s = some (ws, 0, a)) (hf : ¬ a = 0) (HT : Aside0 (Laid w)) :
    Calls Tryd.prog 53 #[.slice A names.length c, .string s, .bool path] w fun e w' => e = .returned (.tuple #[.slice none 0 0, .agg #[.int .i64 0, .int .i64 a]]) ∧ Below w.heap.size w w' := by
  have HR := Aside0.mk hr
  have HK := Aside0.mk hk
  have c1 : (chk names == 0) = true := beq_iff_eq.2 h0
  have c2 : (chk names != 0) = false := by simp [h0]
  have c3 := eq_false hf
  have c4 : decide (a = 0) = false := decide_eq_false hf
  have c5 : (a == 0) = false := beq_eq_false_iff_ne.2 hf
  clear hr hc h0 hk
  go_enter_defers Tryd.func53, Tryd.ntmps53
  go_wp2_with fail
  refine (check_calls A c names _ (Kd.C_alloc (Kd.C_alloc HR.out _) _)).mono ?_
  rintro e w3 ⟨rfl, hb⟩
  have HC := Aside0.mk ((Cells.start w _ _ _).below hb)
  clear hb HR
  go_wp2_with fail
  refine (lexis_Words.calls k s ws 0 a _ HK.out ⟨Laid.later HT.out HC.out.2.2⟩).mono ?_
  rintro e w4 ⟨vL, rfl, hr, hb⟩
  have HC4 := Aside0.mk (HC.out.below hb)
  clear hb hr HC
  have p0 : w4.cell? ⟨w.heap.size, 0, none⟩ = some (.slice none 0 0) := (blk_cell HC4.out.1 0).trans rfl
  have q0 : w4.cell? ⟨w.heap.size + 1, 0, none⟩ = some (.int .i64 0) := (blk_cell HC4.out.2.1 0).trans rfl
  have q1 : w4.cell? ⟨w.heap.size + 1, 1, none⟩ = some (.int .i64 0) := (blk_cell HC4.out.2.1 1).trans rfl
  have fp := blk_frozen HC4.out.1 0
  have fq := blk_frozen HC4.out.2.1 0
  have fq1 := blk_frozen HC4.out.2.1 1
  go_wp2
  go_region
  have hC := ((((HC4.out.put1 (.int .i64 0)).put2 (.int .i64 a)).put0 (.slice none 0 0)).put1 (.int .i64 0)).put2 (.int .i64 a)
  go_wp2
  exact ⟨_, read_results hC.drew _ rfl rfl, rfl, hC.drew.2.2⟩
end Go.Proofs.YtaogoabnidbbpaaDoor.PText
/-! TextReadRun -/
namespace Go.Proofs.YtaogoabnidbbpaaDoor.PText
open Go.RowKit Go.Proofs.YtaogoabnidbbpaaDoorW.PrintWords Go.Proofs.YtaogoabnidbbpaaDoorW.PrintLast Go.Proofs.YtaogoabnidbbpaaDoorW.PrintMore Go.Proofs.YtaogoabnidbbpaaDoorW.Aid
set_option linter.unusedVariables false
/-- The reader as it is made. -/
theorem RdAt.start (w0 : World) (g : Nat) (hg : g = w0.heap.size) (nm : Option Addr) (nn cn : Nat) (last : Int) (A : Option Addr) (c : Nat) (ws : List Wd) (hC : Kd.C k31 w0 A ws.length ws) (hc : ws.length ≤ c) :
    RdAt w0 g nm nn cn last (w0.alloc (.cells #[.slice nm nn cn, .slice A ws.length c, .int .i64 last, .slice none 0 0] 98 (0, 0))) ⟨ws, []⟩ := by
  subst hg
  exact ⟨A, c, .slice none 0 0, blk_new _ _, Nat.le_refl _, hC, hc, Kd.R_nil _ _ _ _ _, below_alloc (Below.refl _ _) _⟩
/-- The words, behind the fault's store. -/
theorem words_kept {w w3 w4 : World} {v : Value} {ws : List Wd} (hr : Kd.R k31 31 w4 w3.heap.size (fun _ => True) v ws) (hlt : w.heap.size + 1 < w3.heap.size) (x y : Value) :
    Kd.R k31 31 ((w4.setCell ⟨w.heap.size + 1, 0, none⟩ x).setCell ⟨w.heap.size + 1, 1, none⟩ y) w3.heap.size (fun _ => True) v ws := by
  have h1 := Kd.R_bound hr
  have h2 := Kd.R_far (p := ⟨w.heap.size + 1, 0, none⟩) h1 (fun k hk => by show k ≠ w.heap.size + 1; have := hk.2.1; omega) x
  have h3 := Kd.R_far (p := ⟨w.heap.size + 1, 1, none⟩) h2 (fun k hk => by show k ≠ w.heap.size + 1; have := hk.2.1; omega) y
  exact Kd.R_mono h3 (fun _ _ => trivial)
/-- The tokens, behind the results' stores. -/
theorem toks_kept {w w5 W W2 : World} {v : Value} {l : List Tk} {ok : Nat → Prop} (hr : Kd.R k55 55 W w5.heap.size ok v l) (hlt : w.heap.size + 1 < w5.heap.size) (hb : Below W.heap.size W W2) (x y z : Value) :
    Kd.R k55 55 (((W2.setCell ⟨w.heap.size, 0, none⟩ x).setCell ⟨w.heap.size + 1, 0, none⟩ y).setCell ⟨w.heap.size + 1, 1, none⟩ z) w.heap.size (fun _ => True) v l := by
  have h1 := Kd.R_bound (Kd.R_below hr hb)
  have h2 := Kd.R_far (p := ⟨w.heap.size, 0, none⟩) h1 (fun k hk => by show k ≠ w.heap.size; have := hk.2.1; omega) x
  have h3 := Kd.R_far (p := ⟨w.heap.size + 1, 0, none⟩) h2 (fun k hk => by show k ≠ w.heap.size + 1; have := hk.2.1; omega) y
  have h4 := Kd.R_far (p := ⟨w.heap.size + 1, 1, none⟩) h3 (fun k hk => by show k ≠ w.heap.size + 1; have := hk.2.1; omega) z
  exact Kd.R_lower (Kd.R_mono h4 (fun _ _ => trivial)) (by omega)
set_option maxHeartbeats 8000000 in
set_option maxRecDepth 100000 in
theorem run_iff_thrown (A : Option Addr) (c : Nat) (names : List ByteArray) (s : ByteArray) (w : World) (hr : Kd.C Kd.string w A names.length names) (hc : names.length ≤ c) (h0 : chk names = 0) (hl8 : names.length ≤ 8) (k : Nat) (ws : List Wd) (hk : lexis_Words.f k s = some (ws, 0, 0)) (hws : ws.length ≤ 4096) (er at_ : Int) (he : run names s.size (roundsFor ws) (ntOf false) ⟨ws, []⟩ = some (.stop er at_)) (HT : Aside0 (Laid w)) :
    Calls Tryd.prog 53 #[.slice A names.length c, .string s, .bool false] w fun e w' => ∃ v0_ : Value, e = .returned (.tuple #[v0_, .agg #[.int .i64 er, .int .i64 at_]]) ∧ Kd.R k55 55 w' w.heap.size (fun _ => True) v0_ [] ∧ Below w.heap.size w w' := by
  have HR := Aside0.mk hr
  have HK := Aside0.mk hk
  have HCN := Aside0.mk hc
  have HL8 := Aside0.mk hl8
  have HWS := Aside0.mk hws
  have HE := Aside0.mk he
  have c1 : (chk names == 0) = true := beq_iff_eq.2 h0
  have c2 : (chk names != 0) = false := by simp [h0]
  have hmf : ∀ (fn : Fn) (first cap : Array Value) (w : World), (Instr.makeFunc fn first cap).run Tryd.prog w = .ok (.func fn first cap) w := fun _ _ _ _ => rfl
  clear hr hc h0 hk hl8 hws he
  go_enter_defers Tryd.func53, Tryd.ntmps53
  go_wp2_with fail
  refine (check_calls A c names _ (Kd.C_alloc (Kd.C_alloc HR.out _) _)).mono ?_
  rintro e w3 ⟨rfl, hb⟩
  have HC := Aside0.mk ((Cells.start w _ _ _).below hb)
  have hlt3 := Aside0.mk (blk_lt HC.out.2.1)
  clear hb
  go_wp2_with fail
  refine (lexis_Words.calls k s ws 0 0 _ HK.out ⟨Laid.later HT.out HC.out.2.2⟩).mono ?_
  rintro e w4 ⟨vL, rfl, hr, hb⟩
  have HC4 := Aside0.mk (HC.out.below hb)
  obtain ⟨Aw, cw, rfl⟩ := Kd.R_slice hr
  have HWR := Aside0.mk (words_kept hr hlt3.out (.int .i64 0) (.int .i64 0))
  have hlt4 := Aside0.mk (blk_lt HC4.out.2.1)
  clear hb hr HC
  have p0 : w4.cell? ⟨w.heap.size, 0, none⟩ = some (.slice none 0 0) := (blk_cell HC4.out.1 0).trans rfl
  have q0 : w4.cell? ⟨w.heap.size + 1, 0, none⟩ = some (.int .i64 0) := (blk_cell HC4.out.2.1 0).trans rfl
  have q1 : w4.cell? ⟨w.heap.size + 1, 1, none⟩ = some (.int .i64 0) := (blk_cell HC4.out.2.1 1).trans rfl
  have fp := blk_frozen HC4.out.1 0
  have fq := blk_frozen HC4.out.2.1 0
  have fq1 := blk_frozen HC4.out.2.1 1
  obtain ⟨w5, hw5⟩ : ∃ w5, w5 = (w4.setCell ⟨w.heap.size + 1, 0, none⟩ (.int .i64 0)).setCell ⟨w.heap.size + 1, 1, none⟩ (.int .i64 0) := ⟨_, rfl⟩
  have hs5 : Aside0 (w4.heap.size = w5.heap.size) := ⟨by rw [hw5]; simp⟩
  have HW5 := Aside0.mk hw5
  have HC5 : Aside0 (Cells w (.slice none 0 0) (.int .i64 0) (.int .i64 0) w5) := ⟨by rw [hw5]; exact (HC4.out.put1 (.int .i64 0)).put2 (.int .i64 0)⟩
  rw [← hw5] at HWR
  clear hw5
  have HST := Aside0.mk (RdAt.start w5 w4.heap.size hs5.out A names.length c (s.size : Int) Aw cw ws (Kd.R_reads' HWR.out).2.2 (Kd.R_reads' HWR.out).2.1)
  have HD := Aside0.mk (all_does names w5 w4.heap.size A c (s.size : Int) (Kd.C_below HR.out HC5.out.2.2) HCN.out HL8.out (roundsFor ws) (roundsFor ws) (Nat.le_refl _) .iff rfl ⟨ws, []⟩ _ HE.out (by show 0 + ws.length ≤ _; have := HWS.out; omega))
  clear HE HWR
  go_wp2_with fail
  rw [← HW5.out]
  refine (HD.out _ HST.out).mono ?_
  rintro e w6 ⟨rfl, hb⟩
  have HC6 := Aside0.mk (HC5.out.below hb)
  clear hb
  unfold thrown
  go_wp2
  refine leaves_cons (f := 66) (args := #[.pointer (some ⟨w.heap.size, 0, none⟩), .pointer (some ⟨w.heap.size + 1, 0, none⟩)]) (by simp) (by simp [go_sem]) ?_
  refine (catch_stop w.heap.size (w.heap.size + 1) er at_ _ _ _ w _ HC6.out.1 HC6.out.2.1 (by omega) (Nat.le_refl _) (Nat.le_succ _) HC6.out.2.2).mono ?_
  rintro e u' w'' ⟨rfl, rfl, h1, h2, h3⟩
  simp only [settle, List.dropWhile_nil]
  exact ⟨_, read_results ⟨h1, h2, h3⟩ _ rfl rfl, _, rfl, Kd.R_nil _ _ _ _ _, h3⟩
set_option maxHeartbeats 8000000 in
set_option maxRecDepth 100000 in
theorem run_iff_left (A : Option Addr) (c : Nat) (names : List ByteArray) (s : ByteArray) (w : World) (hr : Kd.C Kd.string w A names.length names) (hc : names.length ≤ c) (h0 : chk names = 0) (hl8 : names.length ≤ 8) (k : Nat) (ws : List Wd) (hk : lexis_Words.f k s = some (ws, 0, 0)) (hws : ws.length ≤ 4096) (r : Rd) (he : run names s.size (roundsFor ws) (ntOf false) ⟨ws, []⟩ = some (.go r)) (hw : r.ws ≠ []) (HT : Aside0 (Laid w)) :
    Calls Tryd.prog 53 #[.slice A names.length c, .string s, .bool false] w fun e w' => ∃ v0_ : Value, e = .returned (.tuple #[v0_, .agg #[.int .i64 150, .int .i64 (r.place s.size)]]) ∧ Kd.R k55 55 w' w.heap.size (fun _ => True) v0_ [] ∧ Below w.heap.size w w' := by
  have HR := Aside0.mk hr
  have HK := Aside0.mk hk
  have HCN := Aside0.mk hc
  have HL8 := Aside0.mk hl8
  have HWS := Aside0.mk hws
  have HE := Aside0.mk he
  have c1 : (chk names == 0) = true := beq_iff_eq.2 h0
  have c2 : (chk names != 0) = false := by simp [h0]
  have hmf : ∀ (fn : Fn) (first cap : Array Value) (w : World), (Instr.makeFunc fn first cap).run Tryd.prog w = .ok (.func fn first cap) w := fun _ _ _ _ => rfl
  have hwl : 0 < r.ws.length := List.length_pos_iff.2 hw
  have t1 : decide ((0 : Int) < (r.ws.length : Int)) = true := decide_eq_true (by omega)
  have t2 := eq_true (show (0 : Int) < (r.ws.length : Int) by omega)
  have t3 := eq_true hwl
  have t4 := decide_eq_true hwl
  clear hw hwl
  clear hr hc h0 hk hl8 hws he
  go_enter_defers Tryd.func53, Tryd.ntmps53
  go_wp2_with fail
  refine (check_calls A c names _ (Kd.C_alloc (Kd.C_alloc HR.out _) _)).mono ?_
  rintro e w3 ⟨rfl, hb⟩
  have HC := Aside0.mk ((Cells.start w _ _ _).below hb)
  have hlt3 := Aside0.mk (blk_lt HC.out.2.1)
  clear hb
  go_wp2_with fail
  refine (lexis_Words.calls k s ws 0 0 _ HK.out ⟨Laid.later HT.out HC.out.2.2⟩).mono ?_
  rintro e w4 ⟨vL, rfl, hr, hb⟩
  have HC4 := Aside0.mk (HC.out.below hb)
  obtain ⟨Aw, cw, rfl⟩ := Kd.R_slice hr
  have HWR := Aside0.mk (words_kept hr hlt3.out (.int .i64 0) (.int .i64 0))
  have hlt4 := Aside0.mk (blk_lt HC4.out.2.1)
  clear hb hr HC
  have p0 : w4.cell? ⟨w.heap.size, 0, none⟩ = some (.slice none 0 0) := (blk_cell HC4.out.1 0).trans rfl
  have q0 : w4.cell? ⟨w.heap.size + 1, 0, none⟩ = some (.int .i64 0) := (blk_cell HC4.out.2.1 0).trans rfl
  have q1 : w4.cell? ⟨w.heap.size + 1, 1, none⟩ = some (.int .i64 0) := (blk_cell HC4.out.2.1 1).trans rfl
  have fp := blk_frozen HC4.out.1 0
  have fq := blk_frozen HC4.out.2.1 0
  have fq1 := blk_frozen HC4.out.2.1 1
  obtain ⟨w5, hw5⟩ : ∃ w5, w5 = (w4.setCell ⟨w.heap.size + 1, 0, none⟩ (.int .i64 0)).setCell ⟨w.heap.size + 1, 1, none⟩ (.int .i64 0) := ⟨_, rfl⟩
  have hs5 : Aside0 (w4.heap.size = w5.heap.size) := ⟨by rw [hw5]; simp⟩
  have HW5 := Aside0.mk hw5
  have HC5 : Aside0 (Cells w (.slice none 0 0) (.int .i64 0) (.int .i64 0) w5) := ⟨by rw [hw5]; exact (HC4.out.put1 (.int .i64 0)).put2 (.int .i64 0)⟩
  rw [← hw5] at HWR
  clear hw5
  have HST := Aside0.mk (RdAt.start w5 w4.heap.size hs5.out A names.length c (s.size : Int) Aw cw ws (Kd.R_reads' HWR.out).2.2 (Kd.R_reads' HWR.out).2.1)
  have HD := Aside0.mk (all_does names w5 w4.heap.size A c (s.size : Int) (Kd.C_below HR.out HC5.out.2.2) HCN.out HL8.out (roundsFor ws) (roundsFor ws) (Nat.le_refl _) .iff rfl ⟨ws, []⟩ _ HE.out (by show 0 + ws.length ≤ _; have := HWS.out; omega))
  clear HE HWR
  go_wp2_with fail
  rw [← HW5.out]
  refine (HD.out _ HST.out).mono ?_
  rintro e w6 ⟨rfl, hI⟩
  have HI := Aside0.mk hI
  obtain ⟨A6, c6, vo, hb6, hg6, hC6, hc6, hR6, hB6⟩ := hI
  have HC6 := Aside0.mk (HC5.out.below hB6)
  have d1 : w6.cell? ⟨w4.heap.size, 1, none⟩ = some (.slice A6 r.ws.length c6) := (blk_cell hb6 1).trans rfl
  clear hb6 hg6 hC6 hc6 hR6 hB6
  go_wp2_with (go_at_call 69; refine (fail_calls w5 w4.heap.size A names.length c (s.size : Int) r 150 _ HI.out).mono ?_; rintro e w7 ⟨rfl, hb⟩; have HC7 := Aside0.mk (HC5.out.below hb); unfold thrown)
  refine leaves_cons (f := 66) (args := #[.pointer (some ⟨w.heap.size, 0, none⟩), .pointer (some ⟨w.heap.size + 1, 0, none⟩)]) (by simp) (by simp [go_sem]) ?_
  refine (catch_stop w.heap.size (w.heap.size + 1) 150 (r.place s.size) _ _ _ w _ HC7.out.1 HC7.out.2.1 (by omega) (Nat.le_refl _) (Nat.le_succ _) HC7.out.2.2).mono ?_
  rintro e u' w'' ⟨rfl, rfl, h1, h2, h3⟩
  simp only [settle, List.dropWhile_nil]
  exact ⟨_, read_results ⟨h1, h2, h3⟩ _ rfl rfl, _, rfl, Kd.R_nil _ _ _ _ _, h3⟩
set_option maxHeartbeats 8000000 in
set_option maxRecDepth 100000 in
theorem run_iff_bad (A : Option Addr) (c : Nat) (names : List ByteArray) (s : ByteArray) (w : World) (hr : Kd.C Kd.string w A names.length names) (hc : names.length ≤ c) (h0 : chk names = 0) (hl8 : names.length ≤ 8) (k : Nat) (ws : List Wd) (hk : lexis_Words.f k s = some (ws, 0, 0)) (hws : ws.length ≤ 4096) (r : Rd) (he : run names s.size (roundsFor ws) (ntOf false) ⟨ws, []⟩ = some (.go r)) (hc1 : chkT r.out false ≠ 0) (hw : r.ws = []) (HT : Aside0 (Laid w)) :
    Calls Tryd.prog 53 #[.slice A names.length c, .string s, .bool false] w fun e w' => ∃ v0_ : Value, e = .returned (.tuple #[v0_, .agg #[.int .i64 (chkT r.out false), .int .i64 (-1)]]) ∧ Kd.R k55 55 w' w.heap.size (fun _ => True) v0_ [] ∧ Below w.heap.size w w' := by
  have HR := Aside0.mk hr
  have HK := Aside0.mk hk
  have HCN := Aside0.mk hc
  have HL8 := Aside0.mk hl8
  have HWS := Aside0.mk hws
  have HE := Aside0.mk he
  have c1 : (chk names == 0) = true := beq_iff_eq.2 h0
  have c2 : (chk names != 0) = false := by simp [h0]
  have hmf : ∀ (fn : Fn) (first cap : Array Value) (w : World), (Instr.makeFunc fn first cap).run Tryd.prog w = .ok (.func fn first cap) w := fun _ _ _ _ => rfl
  have hwl : Aside0 (r.ws.length = 0) := ⟨by rw [hw]; rfl⟩
  have c3 : (chkT r.out false == 0) = false := beq_eq_false_iff_ne.2 hc1
  have c4 : (chkT r.out false != 0) = true := bne_iff_ne.2 hc1
  obtain ⟨kc, hkc⟩ := (Check_ev2 r.out).rounds
  have HKC := Aside0.mk hkc
  clear hw hc1 hkc
  clear hr hc h0 hk hl8 hws he
  go_enter_defers Tryd.func53, Tryd.ntmps53
  go_wp2_with fail
  refine (check_calls A c names _ (Kd.C_alloc (Kd.C_alloc HR.out _) _)).mono ?_
  rintro e w3 ⟨rfl, hb⟩
  have HC := Aside0.mk ((Cells.start w _ _ _).below hb)
  have hlt3 := Aside0.mk (blk_lt HC.out.2.1)
  clear hb
  go_wp2_with fail
  refine (lexis_Words.calls k s ws 0 0 _ HK.out ⟨Laid.later HT.out HC.out.2.2⟩).mono ?_
  rintro e w4 ⟨vL, rfl, hr, hb⟩
  have HC4 := Aside0.mk (HC.out.below hb)
  obtain ⟨Aw, cw, rfl⟩ := Kd.R_slice hr
  have HWR := Aside0.mk (words_kept hr hlt3.out (.int .i64 0) (.int .i64 0))
  have hlt4 := Aside0.mk (blk_lt HC4.out.2.1)
  clear hb hr HC
  have p0 : w4.cell? ⟨w.heap.size, 0, none⟩ = some (.slice none 0 0) := (blk_cell HC4.out.1 0).trans rfl
  have q0 : w4.cell? ⟨w.heap.size + 1, 0, none⟩ = some (.int .i64 0) := (blk_cell HC4.out.2.1 0).trans rfl
  have q1 : w4.cell? ⟨w.heap.size + 1, 1, none⟩ = some (.int .i64 0) := (blk_cell HC4.out.2.1 1).trans rfl
  have fp := blk_frozen HC4.out.1 0
  have fq := blk_frozen HC4.out.2.1 0
  have fq1 := blk_frozen HC4.out.2.1 1
  obtain ⟨w5, hw5⟩ : ∃ w5, w5 = (w4.setCell ⟨w.heap.size + 1, 0, none⟩ (.int .i64 0)).setCell ⟨w.heap.size + 1, 1, none⟩ (.int .i64 0) := ⟨_, rfl⟩
  have hs5 : Aside0 (w4.heap.size = w5.heap.size) := ⟨by rw [hw5]; simp⟩
  have HW5 := Aside0.mk hw5
  have HC5 : Aside0 (Cells w (.slice none 0 0) (.int .i64 0) (.int .i64 0) w5) := ⟨by rw [hw5]; exact (HC4.out.put1 (.int .i64 0)).put2 (.int .i64 0)⟩
  rw [← hw5] at HWR
  clear hw5
  have HST := Aside0.mk (RdAt.start w5 w4.heap.size hs5.out A names.length c (s.size : Int) Aw cw ws (Kd.R_reads' HWR.out).2.2 (Kd.R_reads' HWR.out).2.1)
  have HD := Aside0.mk (all_does names w5 w4.heap.size A c (s.size : Int) (Kd.C_below HR.out HC5.out.2.2) HCN.out HL8.out (roundsFor ws) (roundsFor ws) (Nat.le_refl _) .iff rfl ⟨ws, []⟩ _ HE.out (by show 0 + ws.length ≤ _; have := HWS.out; omega))
  clear HE HWR
  go_wp2_with fail
  rw [← HW5.out]
  refine (HD.out _ HST.out).mono ?_
  rintro e w6 ⟨rfl, hI⟩
  have HI := Aside0.mk hI
  obtain ⟨A6, c6, vo, hb6, hg6, hC6, hc6, hR6, hB6⟩ := hI
  have HC6 := Aside0.mk (HC5.out.below hB6)
  have d1 : w6.cell? ⟨w4.heap.size, 1, none⟩ = some (.slice A6 r.ws.length c6) := (blk_cell hb6 1).trans rfl
  obtain ⟨Ao, co, rfl⟩ := Kd.R_slice hR6
  have d3 : w6.cell? ⟨w4.heap.size, 3, none⟩ = some (.slice Ao r.out.length co) := (blk_cell hb6 3).trans rfl
  have HO := Aside0.mk hR6
  rw [hwl.out] at d1
  clear hb6 hg6 hC6 hc6 hR6 hB6 HI
  go_wp2_with fail
  go_at_call 57
  refine (term_Check.calls kc Ao co r.out _ _ (Kd.R_reads' HO.out).2.2 (Kd.R_reads' HO.out).2.1 HKC.out).mono ?_
  rintro e w7 ⟨rfl, hb⟩
  have HC7 := Aside0.mk (HC6.out.below hb)
  have d37 : w7.cell? ⟨w4.heap.size, 3, none⟩ = some (.slice Ao r.out.length co) := (hb.cell (World.block_lt_of_cell? w6 _ d3)).trans d3
  have HB7 := Aside0.mk hb
  clear hb
  have p7 : w7.cell? ⟨w.heap.size, 0, none⟩ = some (.slice none 0 0) := (blk_cell HC7.out.1 0).trans rfl
  have q7 : w7.cell? ⟨w.heap.size + 1, 0, none⟩ = some (.int .i64 0) := (blk_cell HC7.out.2.1 0).trans rfl
  have q71 : w7.cell? ⟨w.heap.size + 1, 1, none⟩ = some (.int .i64 0) := (blk_cell HC7.out.2.1 1).trans rfl
  have fp7 := blk_frozen HC7.out.1 0
  have fq7 := blk_frozen HC7.out.2.1 0
  have fq71 := blk_frozen HC7.out.2.1 1
  go_wp2
  have hC := ((HC7.out.put0 (.slice none 0 0)).put1 (.int .i64 (chkT r.out false))).put2 (.int .i64 (-1))
  refine leaves_cons (f := 66) (args := #[.pointer (some ⟨w.heap.size, 0, none⟩), .pointer (some ⟨w.heap.size + 1, 0, none⟩)]) (by simp) (by simp [go_sem]) ?_
  refine (catch_idle ⟨w.heap.size, 0, none⟩ ⟨w.heap.size + 1, 0, none⟩ _).mono ?_
  rintro e u' w'' ⟨rfl, rfl, rfl⟩
  simp only [settle]
  exact ⟨_, read_results hC _ rfl rfl, _, rfl, Kd.R_nil _ _ _ _ _, hC.2.2⟩
set_option maxHeartbeats 8000000 in
set_option maxRecDepth 100000 in
theorem run_iff_good (A : Option Addr) (c : Nat) (names : List ByteArray) (s : ByteArray) (w : World) (hr : Kd.C Kd.string w A names.length names) (hc : names.length ≤ c) (h0 : chk names = 0) (hl8 : names.length ≤ 8) (k : Nat) (ws : List Wd) (hk : lexis_Words.f k s = some (ws, 0, 0)) (hws : ws.length ≤ 4096) (r : Rd) (he : run names s.size (roundsFor ws) (ntOf false) ⟨ws, []⟩ = some (.go r)) (hc1 : chkT r.out false = 0) (hw : r.ws = []) (HT : Aside0 (Laid w)) :
    Calls Tryd.prog 53 #[.slice A names.length c, .string s, .bool false] w fun e w' => ∃ v0_ : Value, e = .returned (.tuple #[v0_, .agg #[.int .i64 0, .int .i64 0]]) ∧ Kd.R k55 55 w' w.heap.size (fun _ => True) v0_ r.out ∧ Below w.heap.size w w' := by
  have HR := Aside0.mk hr
  have HK := Aside0.mk hk
  have HCN := Aside0.mk hc
  have HL8 := Aside0.mk hl8
  have HWS := Aside0.mk hws
  have HE := Aside0.mk he
  have c1 : (chk names == 0) = true := beq_iff_eq.2 h0
  have c2 : (chk names != 0) = false := by simp [h0]
  have hmf : ∀ (fn : Fn) (first cap : Array Value) (w : World), (Instr.makeFunc fn first cap).run Tryd.prog w = .ok (.func fn first cap) w := fun _ _ _ _ => rfl
  have hwl : Aside0 (r.ws.length = 0) := ⟨by rw [hw]; rfl⟩
  obtain ⟨kc, hkc⟩ := (Check_ev2 r.out).rounds
  rw [hc1] at hkc
  have HKC := Aside0.mk hkc
  clear hw hc1 hkc
  clear hr hc h0 hk hl8 hws he
  go_enter_defers Tryd.func53, Tryd.ntmps53
  go_wp2_with fail
  refine (check_calls A c names _ (Kd.C_alloc (Kd.C_alloc HR.out _) _)).mono ?_
  rintro e w3 ⟨rfl, hb⟩
  have HC := Aside0.mk ((Cells.start w _ _ _).below hb)
  have hlt3 := Aside0.mk (blk_lt HC.out.2.1)
  clear hb
  go_wp2_with fail
  refine (lexis_Words.calls k s ws 0 0 _ HK.out ⟨Laid.later HT.out HC.out.2.2⟩).mono ?_
  rintro e w4 ⟨vL, rfl, hr, hb⟩
  have HC4 := Aside0.mk (HC.out.below hb)
  obtain ⟨Aw, cw, rfl⟩ := Kd.R_slice hr
  have HWR := Aside0.mk (words_kept hr hlt3.out (.int .i64 0) (.int .i64 0))
  have hlt4 := Aside0.mk (blk_lt HC4.out.2.1)
  clear hb hr HC
  have p0 : w4.cell? ⟨w.heap.size, 0, none⟩ = some (.slice none 0 0) := (blk_cell HC4.out.1 0).trans rfl
  have q0 : w4.cell? ⟨w.heap.size + 1, 0, none⟩ = some (.int .i64 0) := (blk_cell HC4.out.2.1 0).trans rfl
  have q1 : w4.cell? ⟨w.heap.size + 1, 1, none⟩ = some (.int .i64 0) := (blk_cell HC4.out.2.1 1).trans rfl
  have fp := blk_frozen HC4.out.1 0
  have fq := blk_frozen HC4.out.2.1 0
  have fq1 := blk_frozen HC4.out.2.1 1
  obtain ⟨w5, hw5⟩ : ∃ w5, w5 = (w4.setCell ⟨w.heap.size + 1, 0, none⟩ (.int .i64 0)).setCell ⟨w.heap.size + 1, 1, none⟩ (.int .i64 0) := ⟨_, rfl⟩
  have hs5 : Aside0 (w4.heap.size = w5.heap.size) := ⟨by rw [hw5]; simp⟩
  have HW5 := Aside0.mk hw5
  have HC5 : Aside0 (Cells w (.slice none 0 0) (.int .i64 0) (.int .i64 0) w5) := ⟨by rw [hw5]; exact (HC4.out.put1 (.int .i64 0)).put2 (.int .i64 0)⟩
  rw [← hw5] at HWR
  clear hw5
  have HST := Aside0.mk (RdAt.start w5 w4.heap.size hs5.out A names.length c (s.size : Int) Aw cw ws (Kd.R_reads' HWR.out).2.2 (Kd.R_reads' HWR.out).2.1)
  have HD := Aside0.mk (all_does names w5 w4.heap.size A c (s.size : Int) (Kd.C_below HR.out HC5.out.2.2) HCN.out HL8.out (roundsFor ws) (roundsFor ws) (Nat.le_refl _) .iff rfl ⟨ws, []⟩ _ HE.out (by show 0 + ws.length ≤ _; have := HWS.out; omega))
  clear HE HWR
  go_wp2_with fail
  rw [← HW5.out]
  refine (HD.out _ HST.out).mono ?_
  rintro e w6 ⟨rfl, hI⟩
  have HI := Aside0.mk hI
  obtain ⟨A6, c6, vo, hb6, hg6, hC6, hc6, hR6, hB6⟩ := hI
  have HC6 := Aside0.mk (HC5.out.below hB6)
  have d1 : w6.cell? ⟨w4.heap.size, 1, none⟩ = some (.slice A6 r.ws.length c6) := (blk_cell hb6 1).trans rfl
  obtain ⟨Ao, co, rfl⟩ := Kd.R_slice hR6
  have d3 : w6.cell? ⟨w4.heap.size, 3, none⟩ = some (.slice Ao r.out.length co) := (blk_cell hb6 3).trans rfl
  have HO := Aside0.mk hR6
  rw [hwl.out] at d1
  clear hb6 hg6 hC6 hc6 hR6 hB6 HI
  go_wp2_with fail
  go_at_call 57
  refine (term_Check.calls kc Ao co r.out _ _ (Kd.R_reads' HO.out).2.2 (Kd.R_reads' HO.out).2.1 HKC.out).mono ?_
  rintro e w7 ⟨rfl, hb⟩
  have HC7 := Aside0.mk (HC6.out.below hb)
  have d37 : w7.cell? ⟨w4.heap.size, 3, none⟩ = some (.slice Ao r.out.length co) := (hb.cell (World.block_lt_of_cell? w6 _ d3)).trans d3
  have HB7 := Aside0.mk hb
  clear hb
  have p7 : w7.cell? ⟨w.heap.size, 0, none⟩ = some (.slice none 0 0) := (blk_cell HC7.out.1 0).trans rfl
  have q7 : w7.cell? ⟨w.heap.size + 1, 0, none⟩ = some (.int .i64 0) := (blk_cell HC7.out.2.1 0).trans rfl
  have q71 : w7.cell? ⟨w.heap.size + 1, 1, none⟩ = some (.int .i64 0) := (blk_cell HC7.out.2.1 1).trans rfl
  have fp7 := blk_frozen HC7.out.1 0
  have fq7 := blk_frozen HC7.out.2.1 0
  have fq71 := blk_frozen HC7.out.2.1 1
  go_wp2
  have hC := ((HC7.out.put0 (.slice Ao r.out.length co)).put1 (.int .i64 0)).put2 (.int .i64 0)
  have hlt5 : w.heap.size + 1 < w5.heap.size := by rw [← hs5.out]; exact hlt4.out
  have hK := toks_kept HO.out hlt5 HB7.out (.slice Ao r.out.length co) (.int .i64 0) (.int .i64 0)
  refine leaves_cons (f := 66) (args := #[.pointer (some ⟨w.heap.size, 0, none⟩), .pointer (some ⟨w.heap.size + 1, 0, none⟩)]) (by simp) (by simp [go_sem]) ?_
  refine (catch_idle ⟨w.heap.size, 0, none⟩ ⟨w.heap.size + 1, 0, none⟩ _).mono ?_
  rintro e u' w'' ⟨rfl, rfl, rfl⟩
  simp only [settle]
  exact ⟨_, read_results hC _ rfl rfl, _, rfl, hK, hC.2.2⟩
set_option maxHeartbeats 8000000 in
set_option maxRecDepth 100000 in
theorem run_plus_thrown (A : Option Addr) (c : Nat) (names : List ByteArray) (s : ByteArray) (w : World) (hr : Kd.C Kd.string w A names.length names) (hc : names.length ≤ c) (h0 : chk names = 0) (hl8 : names.length ≤ 8) (k : Nat) (ws : List Wd) (hk : lexis_Words.f k s = some (ws, 0, 0)) (hws : ws.length ≤ 4096) (er at_ : Int) (he : run names s.size (roundsFor ws) (ntOf true) ⟨ws, []⟩ = some (.stop er at_)) (HT : Aside0 (Laid w)) :
    Calls Tryd.prog 53 #[.slice A names.length c, .string s, .bool true] w fun e w' => ∃ v0_ : Value, e = .returned (.tuple #[v0_, .agg #[.int .i64 er, .int .i64 at_]]) ∧ Kd.R k55 55 w' w.heap.size (fun _ => True) v0_ [] ∧ Below w.heap.size w w' := by
  have HR := Aside0.mk hr
  have HK := Aside0.mk hk
  have HCN := Aside0.mk hc
  have HL8 := Aside0.mk hl8
  have HWS := Aside0.mk hws
  have HE := Aside0.mk he
  have c1 : (chk names == 0) = true := beq_iff_eq.2 h0
  have c2 : (chk names != 0) = false := by simp [h0]
  have hmf : ∀ (fn : Fn) (first cap : Array Value) (w : World), (Instr.makeFunc fn first cap).run Tryd.prog w = .ok (.func fn first cap) w := fun _ _ _ _ => rfl
  clear hr hc h0 hk hl8 hws he
  go_enter_defers Tryd.func53, Tryd.ntmps53
  go_wp2_with fail
  refine (check_calls A c names _ (Kd.C_alloc (Kd.C_alloc HR.out _) _)).mono ?_
  rintro e w3 ⟨rfl, hb⟩
  have HC := Aside0.mk ((Cells.start w _ _ _).below hb)
  have hlt3 := Aside0.mk (blk_lt HC.out.2.1)
  clear hb
  go_wp2_with fail
  refine (lexis_Words.calls k s ws 0 0 _ HK.out ⟨Laid.later HT.out HC.out.2.2⟩).mono ?_
  rintro e w4 ⟨vL, rfl, hr, hb⟩
  have HC4 := Aside0.mk (HC.out.below hb)
  obtain ⟨Aw, cw, rfl⟩ := Kd.R_slice hr
  have HWR := Aside0.mk (words_kept hr hlt3.out (.int .i64 0) (.int .i64 0))
  have hlt4 := Aside0.mk (blk_lt HC4.out.2.1)
  clear hb hr HC
  have p0 : w4.cell? ⟨w.heap.size, 0, none⟩ = some (.slice none 0 0) := (blk_cell HC4.out.1 0).trans rfl
  have q0 : w4.cell? ⟨w.heap.size + 1, 0, none⟩ = some (.int .i64 0) := (blk_cell HC4.out.2.1 0).trans rfl
  have q1 : w4.cell? ⟨w.heap.size + 1, 1, none⟩ = some (.int .i64 0) := (blk_cell HC4.out.2.1 1).trans rfl
  have fp := blk_frozen HC4.out.1 0
  have fq := blk_frozen HC4.out.2.1 0
  have fq1 := blk_frozen HC4.out.2.1 1
  obtain ⟨w5, hw5⟩ : ∃ w5, w5 = (w4.setCell ⟨w.heap.size + 1, 0, none⟩ (.int .i64 0)).setCell ⟨w.heap.size + 1, 1, none⟩ (.int .i64 0) := ⟨_, rfl⟩
  have hs5 : Aside0 (w4.heap.size = w5.heap.size) := ⟨by rw [hw5]; simp⟩
  have HW5 := Aside0.mk hw5
  have HC5 : Aside0 (Cells w (.slice none 0 0) (.int .i64 0) (.int .i64 0) w5) := ⟨by rw [hw5]; exact (HC4.out.put1 (.int .i64 0)).put2 (.int .i64 0)⟩
  rw [← hw5] at HWR
  clear hw5
  have HST := Aside0.mk (RdAt.start w5 w4.heap.size hs5.out A names.length c (s.size : Int) Aw cw ws (Kd.R_reads' HWR.out).2.2 (Kd.R_reads' HWR.out).2.1)
  have HD := Aside0.mk (all_does names w5 w4.heap.size A c (s.size : Int) (Kd.C_below HR.out HC5.out.2.2) HCN.out HL8.out (roundsFor ws) (roundsFor ws) (Nat.le_refl _) .plus rfl ⟨ws, []⟩ _ HE.out (by show 0 + ws.length ≤ _; have := HWS.out; omega))
  clear HE HWR
  go_wp2_with fail
  rw [← HW5.out]
  refine (HD.out _ HST.out).mono ?_
  rintro e w6 ⟨rfl, hb⟩
  have HC6 := Aside0.mk (HC5.out.below hb)
  clear hb
  unfold thrown
  go_wp2
  refine leaves_cons (f := 66) (args := #[.pointer (some ⟨w.heap.size, 0, none⟩), .pointer (some ⟨w.heap.size + 1, 0, none⟩)]) (by simp) (by simp [go_sem]) ?_
  refine (catch_stop w.heap.size (w.heap.size + 1) er at_ _ _ _ w _ HC6.out.1 HC6.out.2.1 (by omega) (Nat.le_refl _) (Nat.le_succ _) HC6.out.2.2).mono ?_
  rintro e u' w'' ⟨rfl, rfl, h1, h2, h3⟩
  simp only [settle, List.dropWhile_nil]
  exact ⟨_, read_results ⟨h1, h2, h3⟩ _ rfl rfl, _, rfl, Kd.R_nil _ _ _ _ _, h3⟩
set_option maxHeartbeats 8000000 in
set_option maxRecDepth 100000 in
theorem run_plus_left (A : Option Addr) (c : Nat) (names : List ByteArray) (s : ByteArray) (w : World) (hr : Kd.C Kd.string w A names.length names) (hc : names.length ≤ c) (h0 : chk names = 0) (hl8 : names.length ≤ 8) (k : Nat) (ws : List Wd) (hk : lexis_Words.f k s = some (ws, 0, 0)) (hws : ws.length ≤ 4096) (r : Rd) (he : run names s.size (roundsFor ws) (ntOf true) ⟨ws, []⟩ = some (.go r)) (hw : r.ws ≠ []) (HT : Aside0 (Laid w)) :
    Calls Tryd.prog 53 #[.slice A names.length c, .string s, .bool true] w fun e w' => ∃ v0_ : Value, e = .returned (.tuple #[v0_, .agg #[.int .i64 150, .int .i64 (r.place s.size)]]) ∧ Kd.R k55 55 w' w.heap.size (fun _ => True) v0_ [] ∧ Below w.heap.size w w' := by
  have HR := Aside0.mk hr
  have HK := Aside0.mk hk
  have HCN := Aside0.mk hc
  have HL8 := Aside0.mk hl8
  have HWS := Aside0.mk hws
  have HE := Aside0.mk he
  have c1 : (chk names == 0) = true := beq_iff_eq.2 h0
  have c2 : (chk names != 0) = false := by simp [h0]
  have hmf : ∀ (fn : Fn) (first cap : Array Value) (w : World), (Instr.makeFunc fn first cap).run Tryd.prog w = .ok (.func fn first cap) w := fun _ _ _ _ => rfl
  have hwl : 0 < r.ws.length := List.length_pos_iff.2 hw
  have t1 : decide ((0 : Int) < (r.ws.length : Int)) = true := decide_eq_true (by omega)
  have t2 := eq_true (show (0 : Int) < (r.ws.length : Int) by omega)
  have t3 := eq_true hwl
  have t4 := decide_eq_true hwl
  clear hw hwl
  clear hr hc h0 hk hl8 hws he
  go_enter_defers Tryd.func53, Tryd.ntmps53
  go_wp2_with fail
  refine (check_calls A c names _ (Kd.C_alloc (Kd.C_alloc HR.out _) _)).mono ?_
  rintro e w3 ⟨rfl, hb⟩
  have HC := Aside0.mk ((Cells.start w _ _ _).below hb)
  have hlt3 := Aside0.mk (blk_lt HC.out.2.1)
  clear hb
  go_wp2_with fail
  refine (lexis_Words.calls k s ws 0 0 _ HK.out ⟨Laid.later HT.out HC.out.2.2⟩).mono ?_
  rintro e w4 ⟨vL, rfl, hr, hb⟩
  have HC4 := Aside0.mk (HC.out.below hb)
  obtain ⟨Aw, cw, rfl⟩ := Kd.R_slice hr
  have HWR := Aside0.mk (words_kept hr hlt3.out (.int .i64 0) (.int .i64 0))
  have hlt4 := Aside0.mk (blk_lt HC4.out.2.1)
  clear hb hr HC
  have p0 : w4.cell? ⟨w.heap.size, 0, none⟩ = some (.slice none 0 0) := (blk_cell HC4.out.1 0).trans rfl
  have q0 : w4.cell? ⟨w.heap.size + 1, 0, none⟩ = some (.int .i64 0) := (blk_cell HC4.out.2.1 0).trans rfl
  have q1 : w4.cell? ⟨w.heap.size + 1, 1, none⟩ = some (.int .i64 0) := (blk_cell HC4.out.2.1 1).trans rfl
  have fp := blk_frozen HC4.out.1 0
  have fq := blk_frozen HC4.out.2.1 0
  have fq1 := blk_frozen HC4.out.2.1 1
  obtain ⟨w5, hw5⟩ : ∃ w5, w5 = (w4.setCell ⟨w.heap.size + 1, 0, none⟩ (.int .i64 0)).setCell ⟨w.heap.size + 1, 1, none⟩ (.int .i64 0) := ⟨_, rfl⟩
  have hs5 : Aside0 (w4.heap.size = w5.heap.size) := ⟨by rw [hw5]; simp⟩
  have HW5 := Aside0.mk hw5
  have HC5 : Aside0 (Cells w (.slice none 0 0) (.int .i64 0) (.int .i64 0) w5) := ⟨by rw [hw5]; exact (HC4.out.put1 (.int .i64 0)).put2 (.int .i64 0)⟩
  rw [← hw5] at HWR
  clear hw5
  have HST := Aside0.mk (RdAt.start w5 w4.heap.size hs5.out A names.length c (s.size : Int) Aw cw ws (Kd.R_reads' HWR.out).2.2 (Kd.R_reads' HWR.out).2.1)
  have HD := Aside0.mk (all_does names w5 w4.heap.size A c (s.size : Int) (Kd.C_below HR.out HC5.out.2.2) HCN.out HL8.out (roundsFor ws) (roundsFor ws) (Nat.le_refl _) .plus rfl ⟨ws, []⟩ _ HE.out (by show 0 + ws.length ≤ _; have := HWS.out; omega))
  clear HE HWR
  go_wp2_with fail
  rw [← HW5.out]
  refine (HD.out _ HST.out).mono ?_
  rintro e w6 ⟨rfl, hI⟩
  have HI := Aside0.mk hI
  obtain ⟨A6, c6, vo, hb6, hg6, hC6, hc6, hR6, hB6⟩ := hI
  have HC6 := Aside0.mk (HC5.out.below hB6)
  have d1 : w6.cell? ⟨w4.heap.size, 1, none⟩ = some (.slice A6 r.ws.length c6) := (blk_cell hb6 1).trans rfl
  clear hb6 hg6 hC6 hc6 hR6 hB6
  go_wp2_with (go_at_call 69; refine (fail_calls w5 w4.heap.size A names.length c (s.size : Int) r 150 _ HI.out).mono ?_; rintro e w7 ⟨rfl, hb⟩; have HC7 := Aside0.mk (HC5.out.below hb); unfold thrown)
  refine leaves_cons (f := 66) (args := #[.pointer (some ⟨w.heap.size, 0, none⟩), .pointer (some ⟨w.heap.size + 1, 0, none⟩)]) (by simp) (by simp [go_sem]) ?_
  refine (catch_stop w.heap.size (w.heap.size + 1) 150 (r.place s.size) _ _ _ w _ HC7.out.1 HC7.out.2.1 (by omega) (Nat.le_refl _) (Nat.le_succ _) HC7.out.2.2).mono ?_
  rintro e u' w'' ⟨rfl, rfl, h1, h2, h3⟩
  simp only [settle, List.dropWhile_nil]
  exact ⟨_, read_results ⟨h1, h2, h3⟩ _ rfl rfl, _, rfl, Kd.R_nil _ _ _ _ _, h3⟩
set_option maxHeartbeats 8000000 in
set_option maxRecDepth 100000 in
theorem run_plus_bad (A : Option Addr) (c : Nat) (names : List ByteArray) (s : ByteArray) (w : World) (hr : Kd.C Kd.string w A names.length names) (hc : names.length ≤ c) (h0 : chk names = 0) (hl8 : names.length ≤ 8) (k : Nat) (ws : List Wd) (hk : lexis_Words.f k s = some (ws, 0, 0)) (hws : ws.length ≤ 4096) (r : Rd) (he : run names s.size (roundsFor ws) (ntOf true) ⟨ws, []⟩ = some (.go r)) (hc1 : chkT r.out true ≠ 0) (hw : r.ws = []) (HT : Aside0 (Laid w)) :
    Calls Tryd.prog 53 #[.slice A names.length c, .string s, .bool true] w fun e w' => ∃ v0_ : Value, e = .returned (.tuple #[v0_, .agg #[.int .i64 (chkT r.out true), .int .i64 (-1)]]) ∧ Kd.R k55 55 w' w.heap.size (fun _ => True) v0_ [] ∧ Below w.heap.size w w' := by
  have HR := Aside0.mk hr
  have HK := Aside0.mk hk
  have HCN := Aside0.mk hc
  have HL8 := Aside0.mk hl8
  have HWS := Aside0.mk hws
  have HE := Aside0.mk he
  have c1 : (chk names == 0) = true := beq_iff_eq.2 h0
  have c2 : (chk names != 0) = false := by simp [h0]
  have hmf : ∀ (fn : Fn) (first cap : Array Value) (w : World), (Instr.makeFunc fn first cap).run Tryd.prog w = .ok (.func fn first cap) w := fun _ _ _ _ => rfl
  have hwl : Aside0 (r.ws.length = 0) := ⟨by rw [hw]; rfl⟩
  have c3 : (chkT r.out true == 0) = false := beq_eq_false_iff_ne.2 hc1
  have c4 : (chkT r.out true != 0) = true := bne_iff_ne.2 hc1
  obtain ⟨kc, hkc⟩ := (Path_ev2 r.out).rounds
  have HKC := Aside0.mk hkc
  clear hw hc1 hkc
  clear hr hc h0 hk hl8 hws he
  go_enter_defers Tryd.func53, Tryd.ntmps53
  go_wp2_with fail
  refine (check_calls A c names _ (Kd.C_alloc (Kd.C_alloc HR.out _) _)).mono ?_
  rintro e w3 ⟨rfl, hb⟩
  have HC := Aside0.mk ((Cells.start w _ _ _).below hb)
  have hlt3 := Aside0.mk (blk_lt HC.out.2.1)
  clear hb
  go_wp2_with fail
  refine (lexis_Words.calls k s ws 0 0 _ HK.out ⟨Laid.later HT.out HC.out.2.2⟩).mono ?_
  rintro e w4 ⟨vL, rfl, hr, hb⟩
  have HC4 := Aside0.mk (HC.out.below hb)
  obtain ⟨Aw, cw, rfl⟩ := Kd.R_slice hr
  have HWR := Aside0.mk (words_kept hr hlt3.out (.int .i64 0) (.int .i64 0))
  have hlt4 := Aside0.mk (blk_lt HC4.out.2.1)
  clear hb hr HC
  have p0 : w4.cell? ⟨w.heap.size, 0, none⟩ = some (.slice none 0 0) := (blk_cell HC4.out.1 0).trans rfl
  have q0 : w4.cell? ⟨w.heap.size + 1, 0, none⟩ = some (.int .i64 0) := (blk_cell HC4.out.2.1 0).trans rfl
  have q1 : w4.cell? ⟨w.heap.size + 1, 1, none⟩ = some (.int .i64 0) := (blk_cell HC4.out.2.1 1).trans rfl
  have fp := blk_frozen HC4.out.1 0
  have fq := blk_frozen HC4.out.2.1 0
  have fq1 := blk_frozen HC4.out.2.1 1
  obtain ⟨w5, hw5⟩ : ∃ w5, w5 = (w4.setCell ⟨w.heap.size + 1, 0, none⟩ (.int .i64 0)).setCell ⟨w.heap.size + 1, 1, none⟩ (.int .i64 0) := ⟨_, rfl⟩
  have hs5 : Aside0 (w4.heap.size = w5.heap.size) := ⟨by rw [hw5]; simp⟩
  have HW5 := Aside0.mk hw5
  have HC5 : Aside0 (Cells w (.slice none 0 0) (.int .i64 0) (.int .i64 0) w5) := ⟨by rw [hw5]; exact (HC4.out.put1 (.int .i64 0)).put2 (.int .i64 0)⟩
  rw [← hw5] at HWR
  clear hw5
  have HST := Aside0.mk (RdAt.start w5 w4.heap.size hs5.out A names.length c (s.size : Int) Aw cw ws (Kd.R_reads' HWR.out).2.2 (Kd.R_reads' HWR.out).2.1)
  have HD := Aside0.mk (all_does names w5 w4.heap.size A c (s.size : Int) (Kd.C_below HR.out HC5.out.2.2) HCN.out HL8.out (roundsFor ws) (roundsFor ws) (Nat.le_refl _) .plus rfl ⟨ws, []⟩ _ HE.out (by show 0 + ws.length ≤ _; have := HWS.out; omega))
  clear HE HWR
  go_wp2_with fail
  rw [← HW5.out]
  refine (HD.out _ HST.out).mono ?_
  rintro e w6 ⟨rfl, hI⟩
  have HI := Aside0.mk hI
  obtain ⟨A6, c6, vo, hb6, hg6, hC6, hc6, hR6, hB6⟩ := hI
  have HC6 := Aside0.mk (HC5.out.below hB6)
  have d1 : w6.cell? ⟨w4.heap.size, 1, none⟩ = some (.slice A6 r.ws.length c6) := (blk_cell hb6 1).trans rfl
  obtain ⟨Ao, co, rfl⟩ := Kd.R_slice hR6
  have d3 : w6.cell? ⟨w4.heap.size, 3, none⟩ = some (.slice Ao r.out.length co) := (blk_cell hb6 3).trans rfl
  have HO := Aside0.mk hR6
  rw [hwl.out] at d1
  clear hb6 hg6 hC6 hc6 hR6 hB6 HI
  go_wp2_with fail
  go_at_call 59
  refine (term_Path.calls kc Ao co r.out _ _ (Kd.R_reads' HO.out).2.2 (Kd.R_reads' HO.out).2.1 HKC.out).mono ?_
  rintro e w7 ⟨rfl, hb⟩
  have HC7 := Aside0.mk (HC6.out.below hb)
  have d37 : w7.cell? ⟨w4.heap.size, 3, none⟩ = some (.slice Ao r.out.length co) := (hb.cell (World.block_lt_of_cell? w6 _ d3)).trans d3
  have HB7 := Aside0.mk hb
  clear hb
  have p7 : w7.cell? ⟨w.heap.size, 0, none⟩ = some (.slice none 0 0) := (blk_cell HC7.out.1 0).trans rfl
  have q7 : w7.cell? ⟨w.heap.size + 1, 0, none⟩ = some (.int .i64 0) := (blk_cell HC7.out.2.1 0).trans rfl
  have q71 : w7.cell? ⟨w.heap.size + 1, 1, none⟩ = some (.int .i64 0) := (blk_cell HC7.out.2.1 1).trans rfl
  have fp7 := blk_frozen HC7.out.1 0
  have fq7 := blk_frozen HC7.out.2.1 0
  have fq71 := blk_frozen HC7.out.2.1 1
  go_wp2
  have hC := ((HC7.out.put0 (.slice none 0 0)).put1 (.int .i64 (chkT r.out true))).put2 (.int .i64 (-1))
  refine leaves_cons (f := 66) (args := #[.pointer (some ⟨w.heap.size, 0, none⟩), .pointer (some ⟨w.heap.size + 1, 0, none⟩)]) (by simp) (by simp [go_sem]) ?_
  refine (catch_idle ⟨w.heap.size, 0, none⟩ ⟨w.heap.size + 1, 0, none⟩ _).mono ?_
  rintro e u' w'' ⟨rfl, rfl, rfl⟩
  simp only [settle]
  exact ⟨_, read_results hC _ rfl rfl, _, rfl, Kd.R_nil _ _ _ _ _, hC.2.2⟩
set_option maxHeartbeats 8000000 in
set_option maxRecDepth 100000 in
theorem run_plus_good (A : Option Addr) (c : Nat) (names : List ByteArray) (s : ByteArray) (w : World) (hr : Kd.C Kd.string w A names.length names) (hc : names.length ≤ c) (h0 : chk names = 0) (hl8 : names.length ≤ 8) (k : Nat) (ws : List Wd) (hk : lexis_Words.f k s = some (ws, 0, 0)) (hws : ws.length ≤ 4096) (r : Rd) (he : run names s.size (roundsFor ws) (ntOf true) ⟨ws, []⟩ = some (.go r)) (hc1 : chkT r.out true = 0) (hw : r.ws = []) (HT : Aside0 (Laid w)) :
    Calls Tryd.prog 53 #[.slice A names.length c, .string s, .bool true] w fun e w' => ∃ v0_ : Value, e = .returned (.tuple #[v0_, .agg #[.int .i64 0, .int .i64 0]]) ∧ Kd.R k55 55 w' w.heap.size (fun _ => True) v0_ r.out ∧ Below w.heap.size w w' := by
  have HR := Aside0.mk hr
  have HK := Aside0.mk hk
  have HCN := Aside0.mk hc
  have HL8 := Aside0.mk hl8
  have HWS := Aside0.mk hws
  have HE := Aside0.mk he
  have c1 : (chk names == 0) = true := beq_iff_eq.2 h0
  have c2 : (chk names != 0) = false := by simp [h0]
  have hmf : ∀ (fn : Fn) (first cap : Array Value) (w : World), (Instr.makeFunc fn first cap).run Tryd.prog w = .ok (.func fn first cap) w := fun _ _ _ _ => rfl
  have hwl : Aside0 (r.ws.length = 0) := ⟨by rw [hw]; rfl⟩
  obtain ⟨kc, hkc⟩ := (Path_ev2 r.out).rounds
  rw [hc1] at hkc
  have HKC := Aside0.mk hkc
  clear hw hc1 hkc
  clear hr hc h0 hk hl8 hws he
  go_enter_defers Tryd.func53, Tryd.ntmps53
  go_wp2_with fail
  refine (check_calls A c names _ (Kd.C_alloc (Kd.C_alloc HR.out _) _)).mono ?_
  rintro e w3 ⟨rfl, hb⟩
  have HC := Aside0.mk ((Cells.start w _ _ _).below hb)
  have hlt3 := Aside0.mk (blk_lt HC.out.2.1)
  clear hb
  go_wp2_with fail
  refine (lexis_Words.calls k s ws 0 0 _ HK.out ⟨Laid.later HT.out HC.out.2.2⟩).mono ?_
  rintro e w4 ⟨vL, rfl, hr, hb⟩
  have HC4 := Aside0.mk (HC.out.below hb)
  obtain ⟨Aw, cw, rfl⟩ := Kd.R_slice hr
  have HWR := Aside0.mk (words_kept hr hlt3.out (.int .i64 0) (.int .i64 0))
  have hlt4 := Aside0.mk (blk_lt HC4.out.2.1)
  clear hb hr HC
  have p0 : w4.cell? ⟨w.heap.size, 0, none⟩ = some (.slice none 0 0) := (blk_cell HC4.out.1 0).trans rfl
  have q0 : w4.cell? ⟨w.heap.size + 1, 0, none⟩ = some (.int .i64 0) := (blk_cell HC4.out.2.1 0).trans rfl
  have q1 : w4.cell? ⟨w.heap.size + 1, 1, none⟩ = some (.int .i64 0) := (blk_cell HC4.out.2.1 1).trans rfl
  have fp := blk_frozen HC4.out.1 0
  have fq := blk_frozen HC4.out.2.1 0
  have fq1 := blk_frozen HC4.out.2.1 1
  obtain ⟨w5, hw5⟩ : ∃ w5, w5 = (w4.setCell ⟨w.heap.size + 1, 0, none⟩ (.int .i64 0)).setCell ⟨w.heap.size + 1, 1, none⟩ (.int .i64 0) := ⟨_, rfl⟩
  have hs5 : Aside0 (w4.heap.size = w5.heap.size) := ⟨by rw [hw5]; simp⟩
  have HW5 := Aside0.mk hw5
  have HC5 : Aside0 (Cells w (.slice none 0 0) (.int .i64 0) (.int .i64 0) w5) := ⟨by rw [hw5]; exact (HC4.out.put1 (.int .i64 0)).put2 (.int .i64 0)⟩
  rw [← hw5] at HWR
  clear hw5
  have HST := Aside0.mk (RdAt.start w5 w4.heap.size hs5.out A names.length c (s.size : Int) Aw cw ws (Kd.R_reads' HWR.out).2.2 (Kd.R_reads' HWR.out).2.1)
  have HD := Aside0.mk (all_does names w5 w4.heap.size A c (s.size : Int) (Kd.C_below HR.out HC5.out.2.2) HCN.out HL8.out (roundsFor ws) (roundsFor ws) (Nat.le_refl _) .plus rfl ⟨ws, []⟩ _ HE.out (by show 0 + ws.length ≤ _; have := HWS.out; omega))
  clear HE HWR
  go_wp2_with fail
  rw [← HW5.out]
  refine (HD.out _ HST.out).mono ?_
  rintro e w6 ⟨rfl, hI⟩
  have HI := Aside0.mk hI
  obtain ⟨A6, c6, vo, hb6, hg6, hC6, hc6, hR6, hB6⟩ := hI
  have HC6 := Aside0.mk (HC5.out.below hB6)
  have d1 : w6.cell? ⟨w4.heap.size, 1, none⟩ = some (.slice A6 r.ws.length c6) := (blk_cell hb6 1).trans rfl
  obtain ⟨Ao, co, rfl⟩ := Kd.R_slice hR6
  have d3 : w6.cell? ⟨w4.heap.size, 3, none⟩ = some (.slice Ao r.out.length co) := (blk_cell hb6 3).trans rfl
  have HO := Aside0.mk hR6
  rw [hwl.out] at d1
  clear hb6 hg6 hC6 hc6 hR6 hB6 HI
  go_wp2_with fail
  go_at_call 59
  refine (term_Path.calls kc Ao co r.out _ _ (Kd.R_reads' HO.out).2.2 (Kd.R_reads' HO.out).2.1 HKC.out).mono ?_
  rintro e w7 ⟨rfl, hb⟩
  have HC7 := Aside0.mk (HC6.out.below hb)
  have d37 : w7.cell? ⟨w4.heap.size, 3, none⟩ = some (.slice Ao r.out.length co) := (hb.cell (World.block_lt_of_cell? w6 _ d3)).trans d3
  have HB7 := Aside0.mk hb
  clear hb
  have p7 : w7.cell? ⟨w.heap.size, 0, none⟩ = some (.slice none 0 0) := (blk_cell HC7.out.1 0).trans rfl
  have q7 : w7.cell? ⟨w.heap.size + 1, 0, none⟩ = some (.int .i64 0) := (blk_cell HC7.out.2.1 0).trans rfl
  have q71 : w7.cell? ⟨w.heap.size + 1, 1, none⟩ = some (.int .i64 0) := (blk_cell HC7.out.2.1 1).trans rfl
  have fp7 := blk_frozen HC7.out.1 0
  have fq7 := blk_frozen HC7.out.2.1 0
  have fq71 := blk_frozen HC7.out.2.1 1
  go_wp2
  have hC := ((HC7.out.put0 (.slice Ao r.out.length co)).put1 (.int .i64 0)).put2 (.int .i64 0)
  have hlt5 : w.heap.size + 1 < w5.heap.size := by rw [← hs5.out]; exact hlt4.out
  have hK := toks_kept HO.out hlt5 HB7.out (.slice Ao r.out.length co) (.int .i64 0) (.int .i64 0)
  refine leaves_cons (f := 66) (args := #[.pointer (some ⟨w.heap.size, 0, none⟩), .pointer (some ⟨w.heap.size + 1, 0, none⟩)]) (by simp) (by simp [go_sem]) ?_
  refine (catch_idle ⟨w.heap.size, 0, none⟩ ⟨w.heap.size + 1, 0, none⟩ _).mono ?_
  rintro e u' w'' ⟨rfl, rfl, rfl⟩
  simp only [settle]
  exact ⟨_, read_results hC _ rfl rfl, _, rfl, hK, hC.2.2⟩
end Go.Proofs.YtaogoabnidbbpaaDoor.PText
/-! TextReadAll -/
namespace Go.Proofs.YtaogoabnidbbpaaDoor.PText
open Go.RowKit Go.Proofs.YtaogoabnidbbpaaDoorW.PrintWords Go.Proofs.YtaogoabnidbbpaaDoorW.PrintLast Go.Proofs.YtaogoabnidbbpaaDoorW.PrintMore Go.Proofs.YtaogoabnidbbpaaDoorW.Aid
set_option linter.unusedVariables false
theorem chk_len {names : List ByteArray} (h : chk names = 0) : names.length ≤ 8 := by
  unfold chk at h
  split at h
  · exact absurd h (by decide)
  · omega
theorem readW_stop {names : List ByteArray} {last : Int} {n : Nat} {nt : Nt} {ws : List Wd} {er a : Int} (h : run names last n nt ⟨ws, []⟩ = some (.stop er a)) : readW names last n nt ws = some (.stop er a) := by
  unfold readW; rw [h]; rfl
theorem readW_go {names : List ByteArray} {last : Int} {n : Nat} {nt : Nt} {ws : List Wd} {q : Rd} (h : run names last n nt ⟨ws, []⟩ = some (.go q)) (hq : q.ws = []) : readW names last n nt ws = some (.go q) := by
  unfold readW; rw [h]
  show (match q.ws with | [] => some (End.go q) | _ :: _ => some (q.fail last 150)) = _
  rw [hq]
theorem readW_left {names : List ByteArray} {last : Int} {n : Nat} {nt : Nt} {ws : List Wd} {q : Rd} (h : run names last n nt ⟨ws, []⟩ = some (.go q)) (hq : q.ws ≠ []) : readW names last n nt ws = some (.stop 150 (q.place last)) := by
  unfold readW; rw [h]
  show (match q.ws with | [] => some (End.go q) | _ :: _ => some (q.fail last 150)) = _
  cases hw : q.ws with
  | nil => exact absurd hw hq
  | cons a b => rfl
theorem run_all (path : Bool) (A : Option Addr) (c : Nat) (names : List ByteArray) (s : ByteArray) (w : World) (hr : Kd.C Kd.string w A names.length names) (hc : names.length ≤ c) (h0 : chk names = 0) (k : Nat) (ws : List Wd) (hk : lexis_Words.f k s = some (ws, 0, 0)) (hws : ws.length ≤ 4096) (HT : Aside0 (Laid w))
    (r : List Tk × Int × Int) (hr1 : endL path (readW names s.size (roundsFor ws) (ntOf path) ws) = r) :
    Calls Tryd.prog 53 #[.slice A names.length c, .string s, .bool path] w fun e w' => ∃ v0_ : Value, e = .returned (.tuple #[v0_, .agg #[.int .i64 r.2.1, .int .i64 r.2.2]]) ∧ Kd.R k55 55 w' w.heap.size (fun _ => True) v0_ r.1 ∧ Below w.heap.size w w' := by
  have hl8 := chk_len h0
  obtain ⟨e, he⟩ := run_total names s.size (roundsFor ws) (ntOf path) ⟨ws, []⟩ (by unfold roundsFor ntOf; cases path <;> simp [rank])
  subst hr1
  cases e with
  | stop er at_ =>
    rw [readW_stop he]
    cases path
    · exact run_iff_thrown A c names s w hr hc h0 hl8 k ws hk hws er at_ he HT
    · exact run_plus_thrown A c names s w hr hc h0 hl8 k ws hk hws er at_ he HT
  | go q =>
    by_cases hq : q.ws = []
    · rw [readW_go he hq]
      by_cases hc1 : chkT q.out path = 0
      · rw [show endL path (some (.go q)) = (q.out, 0, 0) from if_pos hc1]
        cases path
        · exact run_iff_good A c names s w hr hc h0 hl8 k ws hk hws q he hc1 hq HT
        · exact run_plus_good A c names s w hr hc h0 hl8 k ws hk hws q he hc1 hq HT
      · rw [show endL path (some (.go q)) = ([], chkT q.out path, -1) from if_neg hc1]
        cases path
        · exact run_iff_bad A c names s w hr hc h0 hl8 k ws hk hws q he hc1 hq HT
        · exact run_plus_bad A c names s w hr hc h0 hl8 k ws hk hws q he hc1 hq HT
    · rw [readW_left he hq]
      cases path
      · exact run_iff_left A c names s w hr hc h0 hl8 k ws hk hws q he hq HT
      · exact run_plus_left A c names s w hr hc h0 hl8 k ws hk hws q he hq HT
theorem parse_read.calls (A0 : Option Addr) (c0 : Nat) (l0 : List ByteArray) (a1 : ByteArray) (a2 : Bool) (r1 : List (S55)) (r2 : Int) (r3 : Int) (w : World) (hr0 : Kd.C Kd.string w A0 l0.length l0) (hc0 : l0.length ≤ c0) (h : parse_read.f l0 a1 a2 = some (r1, r2, r3)) (HT : Aside0 (Laid w) := by exact ⟨Laid.later HT.out (by repeat (first | (with_reducible first | exact HB.out | apply below_alloc | apply pw_below_drewN | apply below_drew1) | exact HB.out))⟩) :
    Calls Tryd.prog 53 #[.slice A0 l0.length c0, .string a1, .bool a2] w fun e w' => ∃ v0_ : Value, e = .returned (.tuple #[v0_, .agg #[.int .i64 r2, .int .i64 r3]]) ∧ Kd.R k55 55 w' w.heap.size (fun _ => True) v0_ r1 ∧ Below w.heap.size w w' := by
  unfold parse_read.f at h
  have h := Option.some.inj h
  have hsz : a1.data.toList.length = a1.size := size_eq a1
  obtain ⟨k, hk⟩ := (words_ev a1).rounds
  have hwl := words_len a1.data.toList
  unfold readL at h
  obtain ⟨ws, er, a, hw⟩ : ∃ ws er a, wordsL a1.data.toList = (ws, er, a) := ⟨_, _, _, rfl⟩
  rw [hw] at h hk hwl
  rw [hsz] at h
  by_cases h0 : chk l0 = 0
  · rw [if_pos h0] at h
    by_cases h1 : er = 0
    · subst h1
      by_cases h2 : a = 0
      · subst h2
        rw [if_pos ⟨rfl, rfl⟩] at h
        exact run_all a2 A0 c0 l0 a1 w hr0 hc0 h0 k ws hk hwl HT (r1, r2, r3) h
      · rw [if_neg (fun hh => h2 hh.2)] at h
        cases h
        exact (read_words2 A0 c0 l0 a1 a2 w hr0 hc0 h0 k ws a hk h2 HT).mono fun e w' ⟨he, hb⟩ => ⟨_, he, Kd.R_nil _ _ _ _ _, hb⟩
    · rw [if_neg (fun hh => h1 hh.1)] at h
      cases h
      exact (read_words1 A0 c0 l0 a1 a2 w hr0 hc0 h0 k ws er a hk h1 HT).mono fun e w' ⟨he, hb⟩ => ⟨_, he, Kd.R_nil _ _ _ _ _, hb⟩
  · rw [if_neg h0] at h
    cases h
    exact (read_names A0 c0 l0 a1 a2 w hr0 hc0 h0).mono fun e w' ⟨he, hb⟩ => ⟨_, he, Kd.R_nil _ _ _ _ _, hb⟩
end Go.Proofs.YtaogoabnidbbpaaDoor.PText
/-! PTextF -/
namespace Go.Proofs.YtaogoabnidbbpaaDoor.PText
open Go.RowKit Go.Proofs.YtaogoabnidbbpaaDoorW.PrintWords Go.Proofs.YtaogoabnidbbpaaDoorW.PrintLast Go.Proofs.YtaogoabnidbbpaaDoorW.PrintMore
attribute [local go_sem] max2_int min2_int max_two min_two max_three min_three max_four min_four   -- for this text's walks alone
set_option linter.unusedVariables false
set_option linter.unusedSimpArgs false
attribute [local go_sem high] eqA26 eqA55
def parse_Formula.f (l0 : List ByteArray) (a1 : ByteArray) : Option ((List (S55)) × Int × Int) := (parse_read.f l0 a1 false).bind fun bt165 => (some (bt165.1, bt165.2.1, bt165.2.2))
set_option maxHeartbeats 8000000 in
set_option maxRecDepth 100000 in
theorem parse_Formula.calls (A0 : Option Addr) (c0 : Nat) (l0 : List ByteArray) (a1 : ByteArray) (r1 : List (S55)) (r2 : Int) (r3 : Int) (w : World) (hr0 : Kd.C Kd.string w A0 l0.length l0) (hc0 : l0.length ≤ c0) (h : parse_Formula.f l0 a1 = some (r1, r2, r3)) (HT : Aside0 (Laid w) := by exact ⟨Laid.later HT.out (by repeat (first | (with_reducible first | exact HB.out | apply below_alloc | apply pw_below_drewN | apply below_drew1) | exact HB.out | (refine below_set ?_ (Aside0.out (by assumption)))))⟩) :
    Calls Tryd.prog 26 #[.slice A0 l0.length c0, .string a1] w fun e w' => ∃ v0_ : Value, e = .returned (.tuple #[v0_, .agg #[.int .i64 r2, .int .i64 r3]]) ∧ Kd.R k55 55 w' w.heap.size (fun _ => True) v0_ r1 ∧ Below w.heap.size w w' := by
  have hu26 := Tryd.underlying26
  have HR0 := Aside0.mk hr0
  have HC0 := Aside0.mk hc0
  clear hr0 hc0
  have HB := Aside0.mk (Below.refl w.heap.size w)
  have H : ((parse_read.f l0 a1 false).bind fun bt165 => (some (bt165.1, bt165.2.1, bt165.2.2))) = some (r1, r2, r3) := h
  clear h
  replace H := Option.bind_eq_some_iff.mp H
  obtain ⟨⟨t165, t168, t169⟩, A30, H⟩ := H
  replace H : (some (t165, t168, t169)) = some (r1, r2, r3) := H
  have A3 := Aside0.mk A30
  clear A30
  simp only [Option.some.injEq, Prod.mk.injEq] at H
  obtain ⟨rfl, rfl, rfl⟩ := H
  go_enter Tryd.func26, Tryd.ntmps26
  go_wp2_with (first | ((with_reducible refine gate_dst (N := 5) rfl ?_); refine box_event ?hg (N := 5) ?hd (cs := #[.int .i64 0, .int .i64 0]) (t := 26) ?hr ?_; (case hd => rfl); (case hg => rfl); (case hr => first | (go_simp; done) | (go_simp; rfl)); intro gb164 hg w4 hbox hb; have n0_ := Aside0.mk (below_step (by repeat (first | (with_reducible first | exact HB.out | apply below_alloc | apply pw_below_drewN | apply below_drew1) | exact HB.out)) hb); have n1_ := Aside0.mk (hbox); have n2_ := Aside0.mk ((by rw [hg]; exact (below_size (by repeat (first | (with_reducible first | exact HB.out | apply below_alloc | apply pw_below_drewN | apply below_drew1) | exact HB.out))) : w.heap.size ≤ gb164)); have n3_ := Aside0.mk ((by rw [hg]; exact (below_size (by repeat (first | (with_reducible first | exact HB.out | apply below_alloc | apply pw_below_drewN | apply below_drew1) | exact HB.out))) : w.heap.size ≤ gb164)); clear HB; have HB := n0_; have BK164 := n1_; have GW164 := n2_; have GE164 := n3_; clear n0_ n1_ n2_ n3_; clear hb hbox hg) | ((with_reducible refine gate_callee (f := 53) rfl ?_); refine goesL_ (some 8) rfl rfl Tryd.func53 (by kernel_rfl) rfl #[.slice A0 l0.length c0, .string a1, .bool false] rfl (by (try simp only [List.map_toArray, List.map_cons, List.map_nil]); first | done | rfl | (simp only [List.length_drop, List.length_take]; rfl)) ?_; (with_reducible refine (parse_read.calls _ _ l0 a1 false t165 t168 t169 _ ?side1 ?side2 A3.out).mono ?_); (case side1 => repeat (first | exact (Kd.C_below HR0.out HB.out) | (with_reducible refine Kd.C_alloc ?_ _) | (with_reducible refine Kd.C_drewN ?_ _) | (with_reducible refine Kd.C_drew ?_))); (case side2 => exact HC0.out); rintro e w5 ⟨v166, rfl, ho0, hb⟩; refine ⟨_, rfl, ?_⟩; have n0_ := Aside0.mk (Kd.R_lower ho0 (below_size (by repeat (first | (with_reducible first | exact HB.out | apply below_alloc | apply pw_below_drewN | apply below_drew1 | refine below_set ?_ GE164.out) | exact HB.out)))); have n1_ := Aside0.mk (blk_below (g := gb164) (o := .cells #[.int .i64 0, .int .i64 0] 26 (0, 0)) (by (with_reducible repeat (first | refine blk_drewN ?_ _ | refine blk_drew ?_ | refine blk_alloc ?_ _)); exact BK164.out) hb); have n2_ := Aside0.mk (below_step (by repeat (first | (with_reducible first | exact HB.out | apply below_alloc | apply pw_below_drewN | apply below_drew1 | refine below_set ?_ GE164.out) | exact HB.out)) hb); clear BK164; clear HB; have HO167 := n0_; have BK164 := n1_; have HB := n2_; clear n0_ n1_ n2_; (try clear hb); (try clear hb2); (try clear hk); (try clear hi); (try clear ho0); have hcz6_0 : w5.cell? ⟨gb164, 0, none⟩ = some (.int .i64 0) := (blk_cell BK164.out 0).trans rfl; have hcz6_1 : w5.cell? ⟨gb164, 1, none⟩ = some (.int .i64 0) := (blk_cell BK164.out 1).trans rfl; have hfz6_0 := blk_frozen BK164.out 0; have hfz6_1 := blk_frozen BK164.out 1))
  refine bodyPost_ret (results_tc rfl _ _ gb164 26 #[.int .i64 t168, .int .i64 t169] (0, 0) _ rfl (by (with_reducible repeat (first | refine blk_drewN ?_ _ | refine blk_drew ?_ | refine blk_alloc ?_ _)); refine blk_put (cs := #[.int .i64 t168, .int .i64 0]) ?_ 1 _ rfl; (with_reducible repeat (first | refine blk_drewN ?_ _ | refine blk_drew ?_ | refine blk_alloc ?_ _)); refine blk_put (cs := #[.int .i64 0, .int .i64 0]) ?_ 0 _ rfl; (with_reducible repeat (first | refine blk_drewN ?_ _ | refine blk_drew ?_ | refine blk_alloc ?_ _)); exact BK164.out) Tryd.underlying26 rfl (by kernel_rfl)) rfl ?_
  exact ⟨_, by first | rfl | (simp [errW_none, errW_some] <;> rfl) | (simp [*, errW_none, errW_some] <;> rfl), by (with_reducible repeat (first | apply Kd.R_alloc | apply Kd.R_drewN | apply Kd.R_drew)); exact Kd.R_mono (Kd.R_far (p := ⟨gb164, 1, none⟩) (Kd.R_far (p := ⟨gb164, 0, none⟩) (Kd.R_types HO167.out BK164.out (by decide)) (fun _ hk => hk.2) (.int .i64 t168)) (fun _ hk => hk.2) (.int .i64 t169)) (fun _ hk => trivial), by repeat (first | (with_reducible first | exact HB.out | apply below_alloc | apply pw_below_drewN | apply below_drew1 | refine below_set ?_ GE164.out) | exact HB.out)⟩
def rejoinderlaw05_awake.f (k : Nat)  : Option (Bool) := (parse_Formula.f (([(⟨#[112]⟩ : ByteArray), (⟨#[113]⟩ : ByteArray)] : List ByteArray)) (⟨#[112, 32, 85, 32, 113, 32, 38, 32, 112]⟩ : ByteArray)).bind fun bt175 => (if (bt175.2.1 == 0 && (bt175.2.2 == 0)) = true then ((rejoinderkit_SameToks.f k bt175.1 (([(⟨2, 0⟩ : S55), (⟨2, 1⟩ : S55), (⟨15, 0⟩ : S55), (⟨2, 0⟩ : S55), (⟨11, 0⟩ : S55)] : List (S55)))).bind fun t186 => (some t186)) else (some false))
theorem rejoinderlaw05_awake.mono : ∀ k, LeO (rejoinderlaw05_awake.f k ) (rejoinderlaw05_awake.f (k + 1) ) := by
  intro  k
  unfold rejoinderlaw05_awake.f
  repeat' first
      | (with_reducible exact rejoinderkit_SameToks.mono _ _ _)
      | (with_reducible exact LeO.refl _)
      | (with_reducible exact LeO.none _)
      | (with_reducible refine LeO.ite ?_ ?_)
      | (with_reducible refine LeO.bind ?_ (fun _ => ?_))
      | exact rejoinderkit_SameToks.mono _ _ _
      | exact LeO.none _
      | refine LeO.ite ?_ ?_
      | refine LeO.bind ?_ (fun _ => ?_)
set_option maxHeartbeats 8000000 in
set_option maxRecDepth 100000 in
theorem rejoinderlaw05_awake.calls (k : Nat)  (r : Bool) (w : World) (h : rejoinderlaw05_awake.f k  = some r) (HT : Aside0 (Laid w) := by exact ⟨Laid.later HT.out (by repeat (first | (with_reducible first | exact HB.out | apply below_alloc | apply pw_below_drewN | apply below_drew1) | exact HB.out | (refine below_set ?_ (Aside0.out (by assumption)))))⟩) :
    Calls Tryd.prog 25 #[] w fun e w' => e = .returned (.bool r) ∧ Below w.heap.size w w' := by
  have hu26 := Tryd.underlying26
  have hu55 := Tryd.underlying55
  have HB := Aside0.mk (Below.refl w.heap.size w)
  have H : ((parse_Formula.f (([(⟨#[112]⟩ : ByteArray), (⟨#[113]⟩ : ByteArray)] : List ByteArray)) (⟨#[112, 32, 85, 32, 113, 32, 38, 32, 112]⟩ : ByteArray)).bind fun bt175 => (if (bt175.2.1 == 0 && (bt175.2.2 == 0)) = true then ((rejoinderkit_SameToks.f k bt175.1 (([(⟨2, 0⟩ : S55), (⟨2, 1⟩ : S55), (⟨15, 0⟩ : S55), (⟨2, 0⟩ : S55), (⟨11, 0⟩ : S55)] : List (S55)))).bind fun t186 => (some t186)) else (some false))) = some r := h
  clear h
  obtain ⟨y172, hy172⟩ : ∃ y_ : List ByteArray, y_ = (([(⟨#[112]⟩ : ByteArray), (⟨#[113]⟩ : ByteArray)] : List ByteArray)) := ⟨_, rfl⟩
  replace H : ((parse_Formula.f y172 (⟨#[112, 32, 85, 32, 113, 32, 38, 32, 112]⟩ : ByteArray)).bind fun bt175 => (if (bt175.2.1 == 0 && (bt175.2.2 == 0)) = true then ((rejoinderkit_SameToks.f k bt175.1 (([(⟨2, 0⟩ : S55), (⟨2, 1⟩ : S55), (⟨15, 0⟩ : S55), (⟨2, 0⟩ : S55), (⟨11, 0⟩ : S55)] : List (S55)))).bind fun t186 => (some t186)) else (some false))) = some r := by first | (rw [hy172]; with_reducible exact H) | (have H2_ := (Option.bind_some _ _).symm.trans H; rw [hy172]; with_reducible exact H2_) | (have H2_ := (Option.bind_some _ _).symm.trans H; with_reducible exact H2_) | with_reducible exact H | (rw [hy172]; exact H) | exact H
  have Ny172 := Aside0.mk hy172
  clear hy172
  replace H := Option.bind_eq_some_iff.mp H
  obtain ⟨⟨t175, t178, t179⟩, A10, H⟩ := H
  replace H : (if (t178 == 0 && (t179 == 0)) = true then ((rejoinderkit_SameToks.f k t175 (([(⟨2, 0⟩ : S55), (⟨2, 1⟩ : S55), (⟨15, 0⟩ : S55), (⟨2, 0⟩ : S55), (⟨11, 0⟩ : S55)] : List (S55)))).bind fun t186 => (some t186)) else (some false)) = some r := H
  have A1 := Aside0.mk A10
  clear A10
  by_cases c2 : (t178 == 0 && (t179 == 0)) = true
  · rw [if_pos c2] at H
    have c2b0 : (t178 == 0 && (t179 == 0)) = true := c2
    (try (have c2b1 : decide (t178 = 0 && (t179 == 0)) = true := by simpa using c2))
    (try (have c2b2 : (t178 == 0 && (t179 == 0)) = true := by simpa using c2))
    clear c2
    obtain ⟨y183, hy183⟩ : ∃ y_ : List (S55), y_ = (([(⟨2, 0⟩ : S55), (⟨2, 1⟩ : S55), (⟨15, 0⟩ : S55), (⟨2, 0⟩ : S55), (⟨11, 0⟩ : S55)] : List (S55))) := ⟨_, rfl⟩
    replace H : ((rejoinderkit_SameToks.f k t175 y183).bind fun t186 => (some t186)) = some r := by first | (rw [hy183]; with_reducible exact H) | (have H2_ := (Option.bind_some _ _).symm.trans H; rw [hy183]; with_reducible exact H2_) | (have H2_ := (Option.bind_some _ _).symm.trans H; with_reducible exact H2_) | with_reducible exact H | (rw [hy183]; exact H) | exact H
    have Ny183 := Aside0.mk hy183
    clear hy183
    replace H := Option.bind_eq_some_iff.mp H
    obtain ⟨t186, A30, H⟩ := H
    replace H : (some t186) = some r := H
    have A3 := Aside0.mk A30
    clear A30
    obtain rfl := Option.some.inj H
    go_enter Tryd.func25, Tryd.ntmps25
    go_wp2_with (first | ((with_reducible refine gate_dst (N := 6) rfl ?_); (try (refine gate_guard (by rfl) ?_; dsimp only)); refine Kd.R_lit Kd.string _ 9 ?hg (N := 6) ?hd (xs := ([(⟨#[112]⟩ : ByteArray), (⟨#[113]⟩ : ByteArray)] : List ByteArray)) (inner := [.string (⟨#[112]⟩ : ByteArray), .string (⟨#[113]⟩ : ByteArray)]) (ok := fun _ => True) (okp := fun _ => True) ?hr ?hp (fun _ hk => hk) trivial (Below.refl _ _) (Nat.le_refl _) (by simp) ?_; (case hd => rfl); (case hg => rfl); (case hr => first | (go_simp; done) | (go_simp; rfl)); (case hp => exact (Reps.one (show Kd.M Kd.string _ _ _ (⟨#[112]⟩ : ByteArray) [.string (⟨#[112]⟩ : ByteArray)] from rfl) (Reps.one (show Kd.M Kd.string _ _ _ (⟨#[113]⟩ : ByteArray) [.string (⟨#[113]⟩ : ByteArray)] from rfl) (Reps.none _ _)))); intro v173 w4 ho5 hb hg_ hnew_; clear hg_ hnew_; (first | rw [← Ny172.out] at ho5 | (simp only [Int.reduceToNat] at ho5; rw [← Ny172.out] at ho5)); have n0_ := Aside0.mk (Kd.R_lower ho5 (below_size (by repeat (first | (with_reducible first | exact HB.out | apply below_alloc | apply pw_below_drewN | apply below_drew1) | exact HB.out)))); have n1_ := Aside0.mk (below_step (by repeat (first | (with_reducible first | exact HB.out | apply below_alloc | apply pw_below_drewN | apply below_drew1) | exact HB.out)) hb); clear HB; have HO174 := n0_; have HB := n1_; clear n0_ n1_; clear hb ho5; obtain ⟨Ao6, co6, eo6⟩ := Kd.R_slice HO174.out; subst eo6) | ((with_reducible refine gate_callee (f := 26) rfl ?_); refine goesL_ (some 7) rfl rfl Tryd.func26 (by kernel_rfl) rfl #[.slice Ao6 y172.length co6, .string (⟨#[112, 32, 85, 32, 113, 32, 38, 32, 112]⟩ : ByteArray)] rfl (by (try simp only [List.map_toArray, List.map_cons, List.map_nil]); first | done | rfl | (simp only [List.length_drop, List.length_take]; rfl)) ?_; (with_reducible refine (parse_Formula.calls _ _ y172 (⟨#[112, 32, 85, 32, 113, 32, 38, 32, 112]⟩ : ByteArray) t175 t178 t179 _ ?side1 ?side2 A1.out).mono ?_); (case side1 => repeat (first | exact (Kd.R_reads' HO174.out).2.2 | (with_reducible refine Kd.C_alloc ?_ _) | (with_reducible refine Kd.C_drewN ?_ _) | (with_reducible refine Kd.C_drew ?_))); (case side2 => exact (Kd.R_reads' HO174.out).2.1); rintro e w7 ⟨v176, rfl, ho0, hb⟩; refine ⟨_, rfl, ?_⟩; have n0_ := Aside0.mk (Kd.R_below (by (with_reducible repeat (first | apply Kd.R_alloc | apply Kd.R_drewN | apply Kd.R_drew)); exact HO174.out) hb); have n1_ := Aside0.mk (Kd.R_lower ho0 (below_size (by repeat (first | (with_reducible first | exact HB.out | apply below_alloc | apply pw_below_drewN | apply below_drew1) | exact HB.out)))); have n2_ := Aside0.mk (below_step (by repeat (first | (with_reducible first | exact HB.out | apply below_alloc | apply pw_below_drewN | apply below_drew1) | exact HB.out)) hb); clear HO174; clear HB; have HO174 := n0_; have HO177 := n1_; have HB := n2_; clear n0_ n1_ n2_; (try clear hb); (try clear hb2); (try clear hk); (try clear hi); (try clear ho0)) | ((with_reducible refine gate_dst (N := 2) rfl ?_); (try (refine gate_guard (by rfl) ?_; dsimp only)); refine box_event ?hg (N := 2) ?hd (cs := #[.int .i64 0, .int .i64 0]) (t := 26) ?hr ?_; (case hd => rfl); (case hg => rfl); (case hr => first | (go_simp; done) | (go_simp; rfl)); intro gb180 hg w8 hbox hb; have n0_ := Aside0.mk (Kd.R_below (by (with_reducible repeat (first | apply Kd.R_alloc | apply Kd.R_drewN | apply Kd.R_drew)); exact HO174.out) hb); have n1_ := Aside0.mk (Kd.R_below (by (with_reducible repeat (first | apply Kd.R_alloc | apply Kd.R_drewN | apply Kd.R_drew)); exact HO177.out) hb); have n2_ := Aside0.mk (below_step (by repeat (first | (with_reducible first | exact HB.out | apply below_alloc | apply pw_below_drewN | apply below_drew1) | exact HB.out)) hb); have n3_ := Aside0.mk (hbox); have n4_ := Aside0.mk ((by rw [hg]; exact (below_size (by repeat (first | (with_reducible first | exact HB.out | apply below_alloc | apply pw_below_drewN | apply below_drew1) | exact HB.out))) : w.heap.size ≤ gb180)); have n5_ := Aside0.mk ((by rw [hg]; exact (below_size (by repeat (first | (with_reducible first | exact HB.out | apply below_alloc | apply pw_below_drewN | apply below_drew1) | exact HB.out))) : w.heap.size ≤ gb180)); clear HO174; clear HO177; clear HB; have HO174 := n0_; have HO177 := n1_; have HB := n2_; have BK180 := n3_; have GW180 := n4_; have GE180 := n5_; clear n0_ n1_ n2_ n3_ n4_ n5_; clear hb hbox hg; have hcz9_0 : w8.cell? ⟨gb180, 0, none⟩ = some (.int .i64 0) := (blk_cell BK180.out 0).trans rfl; have hcz9_1 : w8.cell? ⟨gb180, 1, none⟩ = some (.int .i64 0) := (blk_cell BK180.out 1).trans rfl; have hfz9_0 := blk_frozen BK180.out 0; have hfz9_1 := blk_frozen BK180.out 1) | ((with_reducible refine gate_dst (N := 3) rfl ?_); (try (refine gate_guard (by rfl) ?_; dsimp only)); refine box_event ?hg (N := 3) ?hd (cs := #[.int .u8 0, .int .u8 0]) (t := 55) ?hr ?_; (case hd => rfl); (case hg => rfl); (case hr => first | (go_simp; done) | (go_simp; rfl)); intro gb181 hg w10 hbox hb; have n0_ := Aside0.mk (Kd.R_below (by (with_reducible repeat (first | apply Kd.R_alloc | apply Kd.R_drewN | apply Kd.R_drew)); exact (Kd.R_mono (Kd.R_far (p := ⟨gb180, 1, none⟩) (Kd.R_far (p := ⟨gb180, 0, none⟩) (Kd.R_types HO174.out BK180.out (by decide)) (fun _ hk => hk.2) (.int .i64 t178)) (fun _ hk => hk.2) (.int .i64 t179)) (fun _ h_ => h_.1))) hb); have n1_ := Aside0.mk (Kd.R_below (Kd.R_elderB (by (with_reducible repeat (first | apply Kd.R_alloc | apply Kd.R_drewN | apply Kd.R_drew)); exact (Kd.R_mono (Kd.R_far (p := ⟨gb180, 1, none⟩) (Kd.R_far (p := ⟨gb180, 0, none⟩) (Kd.R_types HO177.out BK180.out (by decide)) (fun _ hk => hk.2) (.int .i64 t178)) (fun _ hk => hk.2) (.int .i64 t179)) (fun _ h_ => h_.1))) gb181 (Nat.le_of_eq hg.symm)) hb); have n2_ := Aside0.mk (blk_below (g := gb180) (o := .cells #[.int .i64 t178, .int .i64 t179] 26 (0, 0)) (by (with_reducible repeat (first | refine blk_drewN ?_ _ | refine blk_drew ?_ | refine blk_alloc ?_ _)); refine blk_put (cs := #[.int .i64 t178, .int .i64 0]) ?_ 1 _ rfl; (with_reducible repeat (first | refine blk_drewN ?_ _ | refine blk_drew ?_ | refine blk_alloc ?_ _)); refine blk_put (cs := #[.int .i64 0, .int .i64 0]) ?_ 0 _ rfl; (with_reducible repeat (first | refine blk_drewN ?_ _ | refine blk_drew ?_ | refine blk_alloc ?_ _)); exact BK180.out) hb); have n3_ := Aside0.mk (below_step (by repeat (first | (with_reducible first | exact HB.out | apply below_alloc | apply pw_below_drewN | apply below_drew1 | refine below_set ?_ GE180.out) | exact HB.out)) hb); have n4_ := Aside0.mk (hbox); have n5_ := Aside0.mk ((by rw [hg]; exact (below_size (by repeat (first | (with_reducible first | exact HB.out | apply below_alloc | apply pw_below_drewN | apply below_drew1 | refine below_set ?_ GE180.out) | exact HB.out))) : w.heap.size ≤ gb181)); have n6_ := Aside0.mk ((by rw [hg]; exact (below_size (by repeat (first | (with_reducible first | exact HB.out | apply below_alloc | apply pw_below_drewN | apply below_drew1 | refine below_set ?_ GE180.out) | exact HB.out))) : w.heap.size ≤ gb181)); have n7_ := Aside0.mk ((by rw [hg]; exact Nat.ne_of_lt (blk_lt (g := gb180) (o := .cells #[.int .i64 t178, .int .i64 t179] 26 (0, 0)) (by (with_reducible repeat (first | refine blk_drewN ?_ _ | refine blk_drew ?_ | refine blk_alloc ?_ _)); refine blk_put (cs := #[.int .i64 t178, .int .i64 0]) ?_ 1 _ rfl; (with_reducible repeat (first | refine blk_drewN ?_ _ | refine blk_drew ?_ | refine blk_alloc ?_ _)); refine blk_put (cs := #[.int .i64 0, .int .i64 0]) ?_ 0 _ rfl; (with_reducible repeat (first | refine blk_drewN ?_ _ | refine blk_drew ?_ | refine blk_alloc ?_ _)); exact BK180.out)) : gb180 ≠ gb181)); have n8_ := Aside0.mk ((by rw [hg]; exact Nat.ne_of_gt (blk_lt (g := gb180) (o := .cells #[.int .i64 t178, .int .i64 t179] 26 (0, 0)) (by (with_reducible repeat (first | refine blk_drewN ?_ _ | refine blk_drew ?_ | refine blk_alloc ?_ _)); refine blk_put (cs := #[.int .i64 t178, .int .i64 0]) ?_ 1 _ rfl; (with_reducible repeat (first | refine blk_drewN ?_ _ | refine blk_drew ?_ | refine blk_alloc ?_ _)); refine blk_put (cs := #[.int .i64 0, .int .i64 0]) ?_ 0 _ rfl; (with_reducible repeat (first | refine blk_drewN ?_ _ | refine blk_drew ?_ | refine blk_alloc ?_ _)); exact BK180.out)) : gb181 ≠ gb180)); clear HO174; clear HO177; clear BK180; clear HB; have HO174 := n0_; have HO177 := n1_; have BK180 := n2_; have HB := n3_; have BK181 := n4_; have GW181 := n5_; have GE181 := n6_; have NB180_181 := n7_; have NB181_180 := n8_; clear n0_ n1_ n2_ n3_ n4_ n5_ n6_ n7_ n8_; clear hb hbox hg) | ((with_reducible refine gate_dst (N := 4) rfl ?_); (try (refine gate_guard (by rfl) ?_; dsimp only)); refine box_event ?hg (N := 4) ?hd (cs := #[.int .u8 0, .int .u8 0]) (t := 55) ?hr ?_; (case hd => rfl); (case hg => rfl); (case hr => first | (go_simp; done) | (go_simp; rfl)); intro gb182 hg w11 hbox hb; have n0_ := Aside0.mk (Kd.R_below (by (with_reducible repeat (first | apply Kd.R_alloc | apply Kd.R_drewN | apply Kd.R_drew)); exact HO174.out) hb); have n1_ := Aside0.mk (Kd.R_below (Kd.R_elderB (by (with_reducible repeat (first | apply Kd.R_alloc | apply Kd.R_drewN | apply Kd.R_drew)); exact HO177.out) gb182 (Nat.le_of_eq hg.symm)) hb); have n2_ := Aside0.mk (blk_below (g := gb180) (o := .cells #[.int .i64 t178, .int .i64 t179] 26 (0, 0)) (by (with_reducible repeat (first | refine blk_drewN ?_ _ | refine blk_drew ?_ | refine blk_alloc ?_ _)); exact BK180.out) hb); have n3_ := Aside0.mk (blk_below (g := gb181) (o := .cells #[.int .u8 0, .int .u8 0] 55 (0, 0)) (by (with_reducible repeat (first | refine blk_drewN ?_ _ | refine blk_drew ?_ | refine blk_alloc ?_ _)); exact BK181.out) hb); have n4_ := Aside0.mk (below_step (by repeat (first | (with_reducible first | exact HB.out | apply below_alloc | apply pw_below_drewN | apply below_drew1 | refine below_set ?_ GE180.out | refine below_set ?_ GE181.out) | exact HB.out)) hb); have n5_ := Aside0.mk (hbox); have n6_ := Aside0.mk ((by rw [hg]; exact (below_size (by repeat (first | (with_reducible first | exact HB.out | apply below_alloc | apply pw_below_drewN | apply below_drew1 | refine below_set ?_ GE180.out | refine below_set ?_ GE181.out) | exact HB.out))) : w.heap.size ≤ gb182)); have n7_ := Aside0.mk ((by rw [hg]; exact (below_size (by repeat (first | (with_reducible first | exact HB.out | apply below_alloc | apply pw_below_drewN | apply below_drew1 | refine below_set ?_ GE180.out | refine below_set ?_ GE181.out) | exact HB.out))) : w.heap.size ≤ gb182)); have n8_ := Aside0.mk ((by rw [hg]; exact Nat.ne_of_lt (blk_lt (g := gb180) (o := .cells #[.int .i64 t178, .int .i64 t179] 26 (0, 0)) (by (with_reducible repeat (first | refine blk_drewN ?_ _ | refine blk_drew ?_ | refine blk_alloc ?_ _)); exact BK180.out)) : gb180 ≠ gb182)); have n9_ := Aside0.mk ((by rw [hg]; exact Nat.ne_of_gt (blk_lt (g := gb180) (o := .cells #[.int .i64 t178, .int .i64 t179] 26 (0, 0)) (by (with_reducible repeat (first | refine blk_drewN ?_ _ | refine blk_drew ?_ | refine blk_alloc ?_ _)); exact BK180.out)) : gb182 ≠ gb180)); have n10_ := Aside0.mk ((by rw [hg]; exact Nat.ne_of_lt (blk_lt (g := gb181) (o := .cells #[.int .u8 0, .int .u8 0] 55 (0, 0)) (by (with_reducible repeat (first | refine blk_drewN ?_ _ | refine blk_drew ?_ | refine blk_alloc ?_ _)); exact BK181.out)) : gb181 ≠ gb182)); have n11_ := Aside0.mk ((by rw [hg]; exact Nat.ne_of_gt (blk_lt (g := gb181) (o := .cells #[.int .u8 0, .int .u8 0] 55 (0, 0)) (by (with_reducible repeat (first | refine blk_drewN ?_ _ | refine blk_drew ?_ | refine blk_alloc ?_ _)); exact BK181.out)) : gb182 ≠ gb181)); clear HO174; clear HO177; clear BK180; clear BK181; clear HB; have HO174 := n0_; have HO177 := n1_; have BK180 := n2_; have BK181 := n3_; have HB := n4_; have BK182 := n5_; have GW182 := n6_; have GE182 := n7_; have NB180_182 := n8_; have NB182_180 := n9_; have NB181_182 := n10_; have NB182_181 := n11_; clear n0_ n1_ n2_ n3_ n4_ n5_ n6_ n7_ n8_ n9_ n10_ n11_; clear hb hbox hg; have hnb12 := NB181_180.out; have hnc12 := NB180_181.out; have hnb13 := NB181_182.out; have hnc13 := NB182_181.out; have hcz14_0 : w11.cell? ⟨gb181, 0, none⟩ = some (.int .u8 0) := (blk_cell BK181.out 0).trans rfl; have hcz14_1 : w11.cell? ⟨gb181, 1, none⟩ = some (.int .u8 0) := (blk_cell BK181.out 1).trans rfl; have hfz14_0 := blk_frozen BK181.out 0; have hfz14_1 := blk_frozen BK181.out 1; have hnb15 := NB182_180.out; have hnc15 := NB180_182.out; have hcz16_0 : w11.cell? ⟨gb182, 0, none⟩ = some (.int .u8 0) := (blk_cell BK182.out 0).trans rfl; have hcz16_1 : w11.cell? ⟨gb182, 1, none⟩ = some (.int .u8 0) := (blk_cell BK182.out 1).trans rfl; have hfz16_0 := blk_frozen BK182.out 0; have hfz16_1 := blk_frozen BK182.out 1; have hcz17_0 : w11.cell? ⟨gb180, 0, none⟩ = some (.int .i64 t178) := (blk_cell BK180.out 0).trans rfl; have hcz17_1 : w11.cell? ⟨gb180, 1, none⟩ = some (.int .i64 t179) := (blk_cell BK180.out 1).trans rfl; have hfz17_0 := blk_frozen BK180.out 0; have hfz17_1 := blk_frozen BK180.out 1) | ((with_reducible refine gate_dst (N := 22) rfl ?_); (try (refine gate_guard (by rfl) ?_; dsimp only)); refine Kd.R_lit k55 _ 55 ?hg (N := 22) ?hd (xs := ([(⟨2, 0⟩ : S55), (⟨2, 1⟩ : S55), (⟨15, 0⟩ : S55), (⟨2, 0⟩ : S55), (⟨11, 0⟩ : S55)] : List (S55))) (inner := [.int .u8 2, .int .u8 0, .int .u8 2, .int .u8 1, .int .u8 15, .int .u8 0, .int .u8 2, .int .u8 0, .int .u8 11, .int .u8 0]) (ok := fun _ => True) (okp := fun _ => True) ?hr ?hp (fun _ hk => hk) trivial (Below.refl _ _) (Nat.le_refl _) (by simp) ?_; (case hd => rfl); (case hg => rfl); (case hr => first | (go_simp; done) | (go_simp; rfl)); (case hp => exact (Reps.c2 (show Kd.M k55 _ _ _ (⟨2, 0⟩ : S55) [.int .u8 2, .int .u8 0] from (k55_mkM _ _ _ (⟨2, 0⟩ : S55) )) (Reps.c2 (show Kd.M k55 _ _ _ (⟨2, 1⟩ : S55) [.int .u8 2, .int .u8 1] from (k55_mkM _ _ _ (⟨2, 1⟩ : S55) )) (Reps.c2 (show Kd.M k55 _ _ _ (⟨15, 0⟩ : S55) [.int .u8 15, .int .u8 0] from (k55_mkM _ _ _ (⟨15, 0⟩ : S55) )) (Reps.c2 (show Kd.M k55 _ _ _ (⟨2, 0⟩ : S55) [.int .u8 2, .int .u8 0] from (k55_mkM _ _ _ (⟨2, 0⟩ : S55) )) (Reps.c2 (show Kd.M k55 _ _ _ (⟨11, 0⟩ : S55) [.int .u8 11, .int .u8 0] from (k55_mkM _ _ _ (⟨11, 0⟩ : S55) )) (Reps.none _ _))))))); intro v184 w18 ho19 hb hg_ hnew_; clear hg_ hnew_; (first | rw [← Ny183.out] at ho19 | (simp only [Int.reduceToNat] at ho19; rw [← Ny183.out] at ho19)); have n0_ := Aside0.mk (Kd.R_below (by (with_reducible repeat (first | apply Kd.R_alloc | apply Kd.R_drewN | apply Kd.R_drew)); exact (Kd.R_mono (Kd.R_mono (Kd.R_far (p := ⟨gb182, 1, none⟩) (Kd.R_far (p := ⟨gb182, 0, none⟩) (Kd.R_far (p := ⟨gb181, 1, none⟩) (Kd.R_far (p := ⟨gb181, 0, none⟩) (Kd.R_types (Kd.R_types HO174.out BK181.out (by decide)) BK182.out (by decide)) (fun _ hk => hk.1.2) (.int .u8 2)) (fun _ hk => hk.1.2) (.int .u8 0)) (fun _ hk => hk.2) (.int .u8 2)) (fun _ hk => hk.2) (.int .u8 1)) (fun _ h_ => h_.1)) (fun _ h_ => h_.1))) hb); have n1_ := Aside0.mk (Kd.R_elder' (by (with_reducible repeat (first | apply Kd.R_alloc | apply Kd.R_drewN | apply Kd.R_drew)); exact (Kd.R_mono (Kd.R_mono (Kd.R_far (p := ⟨gb182, 1, none⟩) (Kd.R_far (p := ⟨gb182, 0, none⟩) (Kd.R_far (p := ⟨gb181, 1, none⟩) (Kd.R_far (p := ⟨gb181, 0, none⟩) (Kd.R_mono (Kd.R_mono HO177.out (fun k_ hk => (⟨hk, hk.1.2⟩ : _ ∧ k_ ≠ gb181))) (fun k_ hk => (⟨hk, hk.1.2⟩ : _ ∧ k_ ≠ gb182))) (fun _ hk => hk.1.2) (.int .u8 2)) (fun _ hk => hk.1.2) (.int .u8 0)) (fun _ hk => hk.2) (.int .u8 2)) (fun _ hk => hk.2) (.int .u8 1)) (fun _ h_ => h_.1)) (fun _ h_ => h_.1))) (Kd.R_base ho19) hb); have n2_ := Aside0.mk (Kd.R_lower (Kd.R_newB (Kd.R_newB (Kd.R_new' ho19 (Kd.R_lt (by (with_reducible repeat (first | apply Kd.R_alloc | apply Kd.R_drewN | apply Kd.R_drew)); exact (Kd.R_mono (Kd.R_mono (Kd.R_far (p := ⟨gb182, 1, none⟩) (Kd.R_far (p := ⟨gb182, 0, none⟩) (Kd.R_far (p := ⟨gb181, 1, none⟩) (Kd.R_far (p := ⟨gb181, 0, none⟩) (Kd.R_mono (Kd.R_mono HO177.out (fun k_ hk => (⟨hk, hk.1.2⟩ : _ ∧ k_ ≠ gb181))) (fun k_ hk => (⟨hk, hk.1.2⟩ : _ ∧ k_ ≠ gb182))) (fun _ hk => hk.1.2) (.int .u8 2)) (fun _ hk => hk.1.2) (.int .u8 0)) (fun _ hk => hk.2) (.int .u8 2)) (fun _ hk => hk.2) (.int .u8 1)) (fun _ h_ => h_.1)) (fun _ h_ => h_.1))))) (g := gb181) (o := .cells #[.int .u8 2, .int .u8 0] 55 (0, 0)) (by (with_reducible repeat (first | refine blk_drewN ?_ _ | refine blk_drew ?_ | refine blk_alloc ?_ _)); refine blk_far ?_ NB181_182.out _; (with_reducible repeat (first | refine blk_drewN ?_ _ | refine blk_drew ?_ | refine blk_alloc ?_ _)); refine blk_far ?_ NB181_182.out _; (with_reducible repeat (first | refine blk_drewN ?_ _ | refine blk_drew ?_ | refine blk_alloc ?_ _)); refine blk_put (cs := #[.int .u8 2, .int .u8 0]) ?_ 1 _ rfl; (with_reducible repeat (first | refine blk_drewN ?_ _ | refine blk_drew ?_ | refine blk_alloc ?_ _)); refine blk_put (cs := #[.int .u8 0, .int .u8 0]) ?_ 0 _ rfl; (with_reducible repeat (first | refine blk_drewN ?_ _ | refine blk_drew ?_ | refine blk_alloc ?_ _)); exact BK181.out)) (g := gb182) (o := .cells #[.int .u8 2, .int .u8 1] 55 (0, 0)) (by (with_reducible repeat (first | refine blk_drewN ?_ _ | refine blk_drew ?_ | refine blk_alloc ?_ _)); refine blk_put (cs := #[.int .u8 2, .int .u8 0]) ?_ 1 _ rfl; (with_reducible repeat (first | refine blk_drewN ?_ _ | refine blk_drew ?_ | refine blk_alloc ?_ _)); refine blk_put (cs := #[.int .u8 0, .int .u8 0]) ?_ 0 _ rfl; (with_reducible repeat (first | refine blk_drewN ?_ _ | refine blk_drew ?_ | refine blk_alloc ?_ _)); refine blk_far ?_ NB182_181.out _; (with_reducible repeat (first | refine blk_drewN ?_ _ | refine blk_drew ?_ | refine blk_alloc ?_ _)); refine blk_far ?_ NB182_181.out _; (with_reducible repeat (first | refine blk_drewN ?_ _ | refine blk_drew ?_ | refine blk_alloc ?_ _)); exact BK182.out)) (below_size (by repeat (first | (with_reducible first | exact HB.out | apply below_alloc | apply pw_below_drewN | apply below_drew1 | refine below_set ?_ GE180.out | refine below_set ?_ GE181.out | refine below_set ?_ GE182.out) | exact HB.out)))); have n3_ := Aside0.mk (blk_below (g := gb180) (o := .cells #[.int .i64 t178, .int .i64 t179] 26 (0, 0)) (by (with_reducible repeat (first | refine blk_drewN ?_ _ | refine blk_drew ?_ | refine blk_alloc ?_ _)); refine blk_far ?_ NB180_182.out _; (with_reducible repeat (first | refine blk_drewN ?_ _ | refine blk_drew ?_ | refine blk_alloc ?_ _)); refine blk_far ?_ NB180_182.out _; (with_reducible repeat (first | refine blk_drewN ?_ _ | refine blk_drew ?_ | refine blk_alloc ?_ _)); refine blk_far ?_ NB180_181.out _; (with_reducible repeat (first | refine blk_drewN ?_ _ | refine blk_drew ?_ | refine blk_alloc ?_ _)); refine blk_far ?_ NB180_181.out _; (with_reducible repeat (first | refine blk_drewN ?_ _ | refine blk_drew ?_ | refine blk_alloc ?_ _)); exact BK180.out) hb); have n4_ := Aside0.mk (blk_below (g := gb181) (o := .cells #[.int .u8 2, .int .u8 0] 55 (0, 0)) (by (with_reducible repeat (first | refine blk_drewN ?_ _ | refine blk_drew ?_ | refine blk_alloc ?_ _)); refine blk_far ?_ NB181_182.out _; (with_reducible repeat (first | refine blk_drewN ?_ _ | refine blk_drew ?_ | refine blk_alloc ?_ _)); refine blk_far ?_ NB181_182.out _; (with_reducible repeat (first | refine blk_drewN ?_ _ | refine blk_drew ?_ | refine blk_alloc ?_ _)); refine blk_put (cs := #[.int .u8 2, .int .u8 0]) ?_ 1 _ rfl; (with_reducible repeat (first | refine blk_drewN ?_ _ | refine blk_drew ?_ | refine blk_alloc ?_ _)); refine blk_put (cs := #[.int .u8 0, .int .u8 0]) ?_ 0 _ rfl; (with_reducible repeat (first | refine blk_drewN ?_ _ | refine blk_drew ?_ | refine blk_alloc ?_ _)); exact BK181.out) hb); have n5_ := Aside0.mk (blk_below (g := gb182) (o := .cells #[.int .u8 2, .int .u8 1] 55 (0, 0)) (by (with_reducible repeat (first | refine blk_drewN ?_ _ | refine blk_drew ?_ | refine blk_alloc ?_ _)); refine blk_put (cs := #[.int .u8 2, .int .u8 0]) ?_ 1 _ rfl; (with_reducible repeat (first | refine blk_drewN ?_ _ | refine blk_drew ?_ | refine blk_alloc ?_ _)); refine blk_put (cs := #[.int .u8 0, .int .u8 0]) ?_ 0 _ rfl; (with_reducible repeat (first | refine blk_drewN ?_ _ | refine blk_drew ?_ | refine blk_alloc ?_ _)); refine blk_far ?_ NB182_181.out _; (with_reducible repeat (first | refine blk_drewN ?_ _ | refine blk_drew ?_ | refine blk_alloc ?_ _)); refine blk_far ?_ NB182_181.out _; (with_reducible repeat (first | refine blk_drewN ?_ _ | refine blk_drew ?_ | refine blk_alloc ?_ _)); exact BK182.out) hb); have n6_ := Aside0.mk (below_step (by repeat (first | (with_reducible first | exact HB.out | apply below_alloc | apply pw_below_drewN | apply below_drew1 | refine below_set ?_ GE180.out | refine below_set ?_ GE181.out | refine below_set ?_ GE182.out) | exact HB.out)) hb); clear HO174; clear HO177; clear BK180; clear BK181; clear BK182; clear HB; have HO174 := n0_; have HO177 := n1_; have HO185 := n2_; have BK180 := n3_; have BK181 := n4_; have BK182 := n5_; have HB := n6_; clear n0_ n1_ n2_ n3_ n4_ n5_ n6_; clear hb ho19; obtain ⟨Ao20, co20, eo20⟩ := Kd.R_slice HO177.out; subst eo20; obtain ⟨Ao21, co21, eo21⟩ := Kd.R_slice HO185.out; subst eo21) | (go_at_call 27; (with_reducible refine (rejoinderkit_SameToks.calls k _ _ t175 _ _ y183 t186 _ ?side1 ?side2 ?side3 ?side4 A3.out).mono ?_); (case side1 => repeat (first | exact (Kd.R_reads' HO177.out).2.2 | (with_reducible refine Kd.C_alloc ?_ _) | (with_reducible refine Kd.C_drewN ?_ _) | (with_reducible refine Kd.C_drew ?_))); (case side2 => exact (Kd.R_reads' HO177.out).2.1); (case side3 => repeat (first | exact (Kd.R_reads' HO185.out).2.2 | (with_reducible refine Kd.C_alloc ?_ _) | (with_reducible refine Kd.C_drewN ?_ _) | (with_reducible refine Kd.C_drew ?_))); (case side4 => exact (Kd.R_reads' HO185.out).2.1); rintro e w' ⟨rfl, ⟨nd, rfl⟩⟩))
    go_ret
    exact ⟨by first | rfl | (simp [errW_none, errW_some] <;> rfl) | (simp [*, errW_none, errW_some] <;> rfl), by repeat (first | (with_reducible first | exact HB.out | apply below_alloc | apply pw_below_drewN | apply below_drew1 | refine below_set ?_ GE180.out | refine below_set ?_ GE181.out | refine below_set ?_ GE182.out) | exact HB.out)⟩
  · rw [if_neg c2] at H
    have c2b0 : (t178 == 0 && (t179 == 0)) = false := by simpa using c2
    (try (have c2b1 : decide (t178 = 0 && (t179 == 0)) = false := by simpa using c2))
    (try (have c2b2 : (t178 == 0 && (t179 == 0)) = false := by simpa using c2))
    (try (have c2b3 : ¬ (t178 = 0 && (t179 == 0)) := by simpa using c2))
    clear c2
    obtain rfl := Option.some.inj H
    go_enter Tryd.func25, Tryd.ntmps25
    go_wp2_with (first | ((with_reducible refine gate_dst (N := 6) rfl ?_); (try (refine gate_guard (by rfl) ?_; dsimp only)); refine Kd.R_lit Kd.string _ 9 ?hg (N := 6) ?hd (xs := ([(⟨#[112]⟩ : ByteArray), (⟨#[113]⟩ : ByteArray)] : List ByteArray)) (inner := [.string (⟨#[112]⟩ : ByteArray), .string (⟨#[113]⟩ : ByteArray)]) (ok := fun _ => True) (okp := fun _ => True) ?hr ?hp (fun _ hk => hk) trivial (Below.refl _ _) (Nat.le_refl _) (by simp) ?_; (case hd => rfl); (case hg => rfl); (case hr => first | (go_simp; done) | (go_simp; rfl)); (case hp => exact (Reps.one (show Kd.M Kd.string _ _ _ (⟨#[112]⟩ : ByteArray) [.string (⟨#[112]⟩ : ByteArray)] from rfl) (Reps.one (show Kd.M Kd.string _ _ _ (⟨#[113]⟩ : ByteArray) [.string (⟨#[113]⟩ : ByteArray)] from rfl) (Reps.none _ _)))); intro v173 w22 ho23 hb hg_ hnew_; clear hg_ hnew_; (first | rw [← Ny172.out] at ho23 | (simp only [Int.reduceToNat] at ho23; rw [← Ny172.out] at ho23)); have n0_ := Aside0.mk (Kd.R_lower ho23 (below_size (by repeat (first | (with_reducible first | exact HB.out | apply below_alloc | apply pw_below_drewN | apply below_drew1) | exact HB.out)))); have n1_ := Aside0.mk (below_step (by repeat (first | (with_reducible first | exact HB.out | apply below_alloc | apply pw_below_drewN | apply below_drew1) | exact HB.out)) hb); clear HB; have HO174 := n0_; have HB := n1_; clear n0_ n1_; clear hb ho23; obtain ⟨Ao24, co24, eo24⟩ := Kd.R_slice HO174.out; subst eo24) | ((with_reducible refine gate_callee (f := 26) rfl ?_); refine goesL_ (some 7) rfl rfl Tryd.func26 (by kernel_rfl) rfl #[.slice Ao24 y172.length co24, .string (⟨#[112, 32, 85, 32, 113, 32, 38, 32, 112]⟩ : ByteArray)] rfl (by (try simp only [List.map_toArray, List.map_cons, List.map_nil]); first | done | rfl | (simp only [List.length_drop, List.length_take]; rfl)) ?_; (with_reducible refine (parse_Formula.calls _ _ y172 (⟨#[112, 32, 85, 32, 113, 32, 38, 32, 112]⟩ : ByteArray) t175 t178 t179 _ ?side1 ?side2 A1.out).mono ?_); (case side1 => repeat (first | exact (Kd.R_reads' HO174.out).2.2 | (with_reducible refine Kd.C_alloc ?_ _) | (with_reducible refine Kd.C_drewN ?_ _) | (with_reducible refine Kd.C_drew ?_))); (case side2 => exact (Kd.R_reads' HO174.out).2.1); rintro e w25 ⟨v176, rfl, ho0, hb⟩; refine ⟨_, rfl, ?_⟩; have n0_ := Aside0.mk (Kd.R_below (by (with_reducible repeat (first | apply Kd.R_alloc | apply Kd.R_drewN | apply Kd.R_drew)); exact HO174.out) hb); have n1_ := Aside0.mk (Kd.R_lower ho0 (below_size (by repeat (first | (with_reducible first | exact HB.out | apply below_alloc | apply pw_below_drewN | apply below_drew1) | exact HB.out)))); have n2_ := Aside0.mk (below_step (by repeat (first | (with_reducible first | exact HB.out | apply below_alloc | apply pw_below_drewN | apply below_drew1) | exact HB.out)) hb); clear HO174; clear HB; have HO174 := n0_; have HO177 := n1_; have HB := n2_; clear n0_ n1_ n2_; (try clear hb); (try clear hb2); (try clear hk); (try clear hi); (try clear ho0)) | ((with_reducible refine gate_dst (N := 2) rfl ?_); (try (refine gate_guard (by rfl) ?_; dsimp only)); refine box_event ?hg (N := 2) ?hd (cs := #[.int .i64 0, .int .i64 0]) (t := 26) ?hr ?_; (case hd => rfl); (case hg => rfl); (case hr => first | (go_simp; done) | (go_simp; rfl)); intro gb180 hg w26 hbox hb; have n0_ := Aside0.mk (Kd.R_below (by (with_reducible repeat (first | apply Kd.R_alloc | apply Kd.R_drewN | apply Kd.R_drew)); exact HO174.out) hb); have n1_ := Aside0.mk (Kd.R_below (by (with_reducible repeat (first | apply Kd.R_alloc | apply Kd.R_drewN | apply Kd.R_drew)); exact HO177.out) hb); have n2_ := Aside0.mk (below_step (by repeat (first | (with_reducible first | exact HB.out | apply below_alloc | apply pw_below_drewN | apply below_drew1) | exact HB.out)) hb); have n3_ := Aside0.mk (hbox); have n4_ := Aside0.mk ((by rw [hg]; exact (below_size (by repeat (first | (with_reducible first | exact HB.out | apply below_alloc | apply pw_below_drewN | apply below_drew1) | exact HB.out))) : w.heap.size ≤ gb180)); have n5_ := Aside0.mk ((by rw [hg]; exact (below_size (by repeat (first | (with_reducible first | exact HB.out | apply below_alloc | apply pw_below_drewN | apply below_drew1) | exact HB.out))) : w.heap.size ≤ gb180)); clear HO174; clear HO177; clear HB; have HO174 := n0_; have HO177 := n1_; have HB := n2_; have BK180 := n3_; have GW180 := n4_; have GE180 := n5_; clear n0_ n1_ n2_ n3_ n4_ n5_; clear hb hbox hg; have hcz27_0 : w26.cell? ⟨gb180, 0, none⟩ = some (.int .i64 0) := (blk_cell BK180.out 0).trans rfl; have hcz27_1 : w26.cell? ⟨gb180, 1, none⟩ = some (.int .i64 0) := (blk_cell BK180.out 1).trans rfl; have hfz27_0 := blk_frozen BK180.out 0; have hfz27_1 := blk_frozen BK180.out 1) | ((with_reducible refine gate_dst (N := 3) rfl ?_); (try (refine gate_guard (by rfl) ?_; dsimp only)); refine box_event ?hg (N := 3) ?hd (cs := #[.int .u8 0, .int .u8 0]) (t := 55) ?hr ?_; (case hd => rfl); (case hg => rfl); (case hr => first | (go_simp; done) | (go_simp; rfl)); intro gb181 hg w28 hbox hb; have n0_ := Aside0.mk (Kd.R_below (by (with_reducible repeat (first | apply Kd.R_alloc | apply Kd.R_drewN | apply Kd.R_drew)); exact (Kd.R_mono (Kd.R_far (p := ⟨gb180, 1, none⟩) (Kd.R_far (p := ⟨gb180, 0, none⟩) (Kd.R_types HO174.out BK180.out (by decide)) (fun _ hk => hk.2) (.int .i64 t178)) (fun _ hk => hk.2) (.int .i64 t179)) (fun _ h_ => h_.1))) hb); have n1_ := Aside0.mk (Kd.R_below (Kd.R_elderB (by (with_reducible repeat (first | apply Kd.R_alloc | apply Kd.R_drewN | apply Kd.R_drew)); exact (Kd.R_mono (Kd.R_far (p := ⟨gb180, 1, none⟩) (Kd.R_far (p := ⟨gb180, 0, none⟩) (Kd.R_types HO177.out BK180.out (by decide)) (fun _ hk => hk.2) (.int .i64 t178)) (fun _ hk => hk.2) (.int .i64 t179)) (fun _ h_ => h_.1))) gb181 (Nat.le_of_eq hg.symm)) hb); have n2_ := Aside0.mk (blk_below (g := gb180) (o := .cells #[.int .i64 t178, .int .i64 t179] 26 (0, 0)) (by (with_reducible repeat (first | refine blk_drewN ?_ _ | refine blk_drew ?_ | refine blk_alloc ?_ _)); refine blk_put (cs := #[.int .i64 t178, .int .i64 0]) ?_ 1 _ rfl; (with_reducible repeat (first | refine blk_drewN ?_ _ | refine blk_drew ?_ | refine blk_alloc ?_ _)); refine blk_put (cs := #[.int .i64 0, .int .i64 0]) ?_ 0 _ rfl; (with_reducible repeat (first | refine blk_drewN ?_ _ | refine blk_drew ?_ | refine blk_alloc ?_ _)); exact BK180.out) hb); have n3_ := Aside0.mk (below_step (by repeat (first | (with_reducible first | exact HB.out | apply below_alloc | apply pw_below_drewN | apply below_drew1 | refine below_set ?_ GE180.out) | exact HB.out)) hb); have n4_ := Aside0.mk (hbox); have n5_ := Aside0.mk ((by rw [hg]; exact (below_size (by repeat (first | (with_reducible first | exact HB.out | apply below_alloc | apply pw_below_drewN | apply below_drew1 | refine below_set ?_ GE180.out) | exact HB.out))) : w.heap.size ≤ gb181)); have n6_ := Aside0.mk ((by rw [hg]; exact (below_size (by repeat (first | (with_reducible first | exact HB.out | apply below_alloc | apply pw_below_drewN | apply below_drew1 | refine below_set ?_ GE180.out) | exact HB.out))) : w.heap.size ≤ gb181)); have n7_ := Aside0.mk ((by rw [hg]; exact Nat.ne_of_lt (blk_lt (g := gb180) (o := .cells #[.int .i64 t178, .int .i64 t179] 26 (0, 0)) (by (with_reducible repeat (first | refine blk_drewN ?_ _ | refine blk_drew ?_ | refine blk_alloc ?_ _)); refine blk_put (cs := #[.int .i64 t178, .int .i64 0]) ?_ 1 _ rfl; (with_reducible repeat (first | refine blk_drewN ?_ _ | refine blk_drew ?_ | refine blk_alloc ?_ _)); refine blk_put (cs := #[.int .i64 0, .int .i64 0]) ?_ 0 _ rfl; (with_reducible repeat (first | refine blk_drewN ?_ _ | refine blk_drew ?_ | refine blk_alloc ?_ _)); exact BK180.out)) : gb180 ≠ gb181)); have n8_ := Aside0.mk ((by rw [hg]; exact Nat.ne_of_gt (blk_lt (g := gb180) (o := .cells #[.int .i64 t178, .int .i64 t179] 26 (0, 0)) (by (with_reducible repeat (first | refine blk_drewN ?_ _ | refine blk_drew ?_ | refine blk_alloc ?_ _)); refine blk_put (cs := #[.int .i64 t178, .int .i64 0]) ?_ 1 _ rfl; (with_reducible repeat (first | refine blk_drewN ?_ _ | refine blk_drew ?_ | refine blk_alloc ?_ _)); refine blk_put (cs := #[.int .i64 0, .int .i64 0]) ?_ 0 _ rfl; (with_reducible repeat (first | refine blk_drewN ?_ _ | refine blk_drew ?_ | refine blk_alloc ?_ _)); exact BK180.out)) : gb181 ≠ gb180)); clear HO174; clear HO177; clear BK180; clear HB; have HO174 := n0_; have HO177 := n1_; have BK180 := n2_; have HB := n3_; have BK181 := n4_; have GW181 := n5_; have GE181 := n6_; have NB180_181 := n7_; have NB181_180 := n8_; clear n0_ n1_ n2_ n3_ n4_ n5_ n6_ n7_ n8_; clear hb hbox hg) | ((with_reducible refine gate_dst (N := 4) rfl ?_); (try (refine gate_guard (by rfl) ?_; dsimp only)); refine box_event ?hg (N := 4) ?hd (cs := #[.int .u8 0, .int .u8 0]) (t := 55) ?hr ?_; (case hd => rfl); (case hg => rfl); (case hr => first | (go_simp; done) | (go_simp; rfl)); intro gb182 hg w29 hbox hb; have n0_ := Aside0.mk (Kd.R_below (by (with_reducible repeat (first | apply Kd.R_alloc | apply Kd.R_drewN | apply Kd.R_drew)); exact HO174.out) hb); have n1_ := Aside0.mk (Kd.R_below (Kd.R_elderB (by (with_reducible repeat (first | apply Kd.R_alloc | apply Kd.R_drewN | apply Kd.R_drew)); exact HO177.out) gb182 (Nat.le_of_eq hg.symm)) hb); have n2_ := Aside0.mk (blk_below (g := gb180) (o := .cells #[.int .i64 t178, .int .i64 t179] 26 (0, 0)) (by (with_reducible repeat (first | refine blk_drewN ?_ _ | refine blk_drew ?_ | refine blk_alloc ?_ _)); exact BK180.out) hb); have n3_ := Aside0.mk (blk_below (g := gb181) (o := .cells #[.int .u8 0, .int .u8 0] 55 (0, 0)) (by (with_reducible repeat (first | refine blk_drewN ?_ _ | refine blk_drew ?_ | refine blk_alloc ?_ _)); exact BK181.out) hb); have n4_ := Aside0.mk (below_step (by repeat (first | (with_reducible first | exact HB.out | apply below_alloc | apply pw_below_drewN | apply below_drew1 | refine below_set ?_ GE180.out | refine below_set ?_ GE181.out) | exact HB.out)) hb); have n5_ := Aside0.mk (hbox); have n6_ := Aside0.mk ((by rw [hg]; exact (below_size (by repeat (first | (with_reducible first | exact HB.out | apply below_alloc | apply pw_below_drewN | apply below_drew1 | refine below_set ?_ GE180.out | refine below_set ?_ GE181.out) | exact HB.out))) : w.heap.size ≤ gb182)); have n7_ := Aside0.mk ((by rw [hg]; exact (below_size (by repeat (first | (with_reducible first | exact HB.out | apply below_alloc | apply pw_below_drewN | apply below_drew1 | refine below_set ?_ GE180.out | refine below_set ?_ GE181.out) | exact HB.out))) : w.heap.size ≤ gb182)); have n8_ := Aside0.mk ((by rw [hg]; exact Nat.ne_of_lt (blk_lt (g := gb180) (o := .cells #[.int .i64 t178, .int .i64 t179] 26 (0, 0)) (by (with_reducible repeat (first | refine blk_drewN ?_ _ | refine blk_drew ?_ | refine blk_alloc ?_ _)); exact BK180.out)) : gb180 ≠ gb182)); have n9_ := Aside0.mk ((by rw [hg]; exact Nat.ne_of_gt (blk_lt (g := gb180) (o := .cells #[.int .i64 t178, .int .i64 t179] 26 (0, 0)) (by (with_reducible repeat (first | refine blk_drewN ?_ _ | refine blk_drew ?_ | refine blk_alloc ?_ _)); exact BK180.out)) : gb182 ≠ gb180)); have n10_ := Aside0.mk ((by rw [hg]; exact Nat.ne_of_lt (blk_lt (g := gb181) (o := .cells #[.int .u8 0, .int .u8 0] 55 (0, 0)) (by (with_reducible repeat (first | refine blk_drewN ?_ _ | refine blk_drew ?_ | refine blk_alloc ?_ _)); exact BK181.out)) : gb181 ≠ gb182)); have n11_ := Aside0.mk ((by rw [hg]; exact Nat.ne_of_gt (blk_lt (g := gb181) (o := .cells #[.int .u8 0, .int .u8 0] 55 (0, 0)) (by (with_reducible repeat (first | refine blk_drewN ?_ _ | refine blk_drew ?_ | refine blk_alloc ?_ _)); exact BK181.out)) : gb182 ≠ gb181)); clear HO174; clear HO177; clear BK180; clear BK181; clear HB; have HO174 := n0_; have HO177 := n1_; have BK180 := n2_; have BK181 := n3_; have HB := n4_; have BK182 := n5_; have GW182 := n6_; have GE182 := n7_; have NB180_182 := n8_; have NB182_180 := n9_; have NB181_182 := n10_; have NB182_181 := n11_; clear n0_ n1_ n2_ n3_ n4_ n5_ n6_ n7_ n8_ n9_ n10_ n11_; clear hb hbox hg; have hnb30 := NB181_180.out; have hnc30 := NB180_181.out; have hnb31 := NB181_182.out; have hnc31 := NB182_181.out; have hcz32_0 : w29.cell? ⟨gb181, 0, none⟩ = some (.int .u8 0) := (blk_cell BK181.out 0).trans rfl; have hcz32_1 : w29.cell? ⟨gb181, 1, none⟩ = some (.int .u8 0) := (blk_cell BK181.out 1).trans rfl; have hfz32_0 := blk_frozen BK181.out 0; have hfz32_1 := blk_frozen BK181.out 1; have hnb33 := NB182_180.out; have hnc33 := NB180_182.out; have hcz34_0 : w29.cell? ⟨gb182, 0, none⟩ = some (.int .u8 0) := (blk_cell BK182.out 0).trans rfl; have hcz34_1 : w29.cell? ⟨gb182, 1, none⟩ = some (.int .u8 0) := (blk_cell BK182.out 1).trans rfl; have hfz34_0 := blk_frozen BK182.out 0; have hfz34_1 := blk_frozen BK182.out 1; have hcz35_0 : w29.cell? ⟨gb180, 0, none⟩ = some (.int .i64 t178) := (blk_cell BK180.out 0).trans rfl; have hcz35_1 : w29.cell? ⟨gb180, 1, none⟩ = some (.int .i64 t179) := (blk_cell BK180.out 1).trans rfl; have hfz35_0 := blk_frozen BK180.out 0; have hfz35_1 := blk_frozen BK180.out 1))
    go_ret
    exact ⟨by first | rfl | (simp [errW_none, errW_some] <;> rfl) | (simp [*, errW_none, errW_some] <;> rfl), by repeat (first | (with_reducible first | exact HB.out | apply below_alloc | apply pw_below_drewN | apply below_drew1 | refine below_set ?_ GE180.out | refine below_set ?_ GE181.out | refine below_set ?_ GE182.out) | exact HB.out)⟩
end Go.Proofs.YtaogoabnidbbpaaDoor.PText
/-! PTextG -/
namespace Go.Proofs.YtaogoabnidbbpaaDoor.PText
open Go.RowKit Go.Proofs.YtaogoabnidbbpaaDoorW.PrintWords Go.Proofs.YtaogoabnidbbpaaDoorW.PrintLast Go.Proofs.YtaogoabnidbbpaaDoorW.PrintMore
attribute [local go_sem] max2_int min2_int max_two min_two max_three min_three max_four min_four   -- for this text's walks alone
set_option linter.unusedVariables false
set_option linter.unusedSimpArgs false
attribute [local go_sem high] eqA26 eqA55
def parse_Path.f (l0 : List ByteArray) (a1 : ByteArray) : Option ((List (S55)) × Int × Int) := (parse_read.f l0 a1 true).bind fun bt241 => (some (bt241.1, bt241.2.1, bt241.2.2))
set_option maxHeartbeats 8000000 in
set_option maxRecDepth 100000 in
theorem parse_Path.calls (A0 : Option Addr) (c0 : Nat) (l0 : List ByteArray) (a1 : ByteArray) (r1 : List (S55)) (r2 : Int) (r3 : Int) (w : World) (hr0 : Kd.C Kd.string w A0 l0.length l0) (hc0 : l0.length ≤ c0) (h : parse_Path.f l0 a1 = some (r1, r2, r3)) (HT : Aside0 (Laid w) := by exact ⟨Laid.later HT.out (by repeat (first | (with_reducible first | exact HB.out | apply below_alloc | apply pw_below_drewN | apply below_drew1) | exact HB.out | (refine below_set ?_ (Aside0.out (by assumption)))))⟩) :
    Calls Tryd.prog 31 #[.slice A0 l0.length c0, .string a1] w fun e w' => ∃ v0_ : Value, e = .returned (.tuple #[v0_, .agg #[.int .i64 r2, .int .i64 r3]]) ∧ Kd.R k55 55 w' w.heap.size (fun _ => True) v0_ r1 ∧ Below w.heap.size w w' := by
  have hu26 := Tryd.underlying26
  have HR0 := Aside0.mk hr0
  have HC0 := Aside0.mk hc0
  clear hr0 hc0
  have HB := Aside0.mk (Below.refl w.heap.size w)
  have H : ((parse_read.f l0 a1 true).bind fun bt241 => (some (bt241.1, bt241.2.1, bt241.2.2))) = some (r1, r2, r3) := h
  clear h
  replace H := Option.bind_eq_some_iff.mp H
  obtain ⟨⟨t241, t244, t245⟩, A30, H⟩ := H
  replace H : (some (t241, t244, t245)) = some (r1, r2, r3) := H
  have A3 := Aside0.mk A30
  clear A30
  simp only [Option.some.injEq, Prod.mk.injEq] at H
  obtain ⟨rfl, rfl, rfl⟩ := H
  go_enter Tryd.func31, Tryd.ntmps31
  go_wp2_with (first | ((with_reducible refine gate_dst (N := 5) rfl ?_); refine box_event ?hg (N := 5) ?hd (cs := #[.int .i64 0, .int .i64 0]) (t := 26) ?hr ?_; (case hd => rfl); (case hg => rfl); (case hr => first | (go_simp; done) | (go_simp; rfl)); intro gb240 hg w4 hbox hb; have n0_ := Aside0.mk (below_step (by repeat (first | (with_reducible first | exact HB.out | apply below_alloc | apply pw_below_drewN | apply below_drew1) | exact HB.out)) hb); have n1_ := Aside0.mk (hbox); have n2_ := Aside0.mk ((by rw [hg]; exact (below_size (by repeat (first | (with_reducible first | exact HB.out | apply below_alloc | apply pw_below_drewN | apply below_drew1) | exact HB.out))) : w.heap.size ≤ gb240)); have n3_ := Aside0.mk ((by rw [hg]; exact (below_size (by repeat (first | (with_reducible first | exact HB.out | apply below_alloc | apply pw_below_drewN | apply below_drew1) | exact HB.out))) : w.heap.size ≤ gb240)); clear HB; have HB := n0_; have BK240 := n1_; have GW240 := n2_; have GE240 := n3_; clear n0_ n1_ n2_ n3_; clear hb hbox hg) | ((with_reducible refine gate_callee (f := 53) rfl ?_); refine goesL_ (some 8) rfl rfl Tryd.func53 (by kernel_rfl) rfl #[.slice A0 l0.length c0, .string a1, .bool true] rfl (by (try simp only [List.map_toArray, List.map_cons, List.map_nil]); first | done | rfl | (simp only [List.length_drop, List.length_take]; rfl)) ?_; (with_reducible refine (parse_read.calls _ _ l0 a1 true t241 t244 t245 _ ?side1 ?side2 A3.out).mono ?_); (case side1 => repeat (first | exact (Kd.C_below HR0.out HB.out) | (with_reducible refine Kd.C_alloc ?_ _) | (with_reducible refine Kd.C_drewN ?_ _) | (with_reducible refine Kd.C_drew ?_))); (case side2 => exact HC0.out); rintro e w5 ⟨v242, rfl, ho0, hb⟩; refine ⟨_, rfl, ?_⟩; have n0_ := Aside0.mk (Kd.R_lower ho0 (below_size (by repeat (first | (with_reducible first | exact HB.out | apply below_alloc | apply pw_below_drewN | apply below_drew1 | refine below_set ?_ GE240.out) | exact HB.out)))); have n1_ := Aside0.mk (blk_below (g := gb240) (o := .cells #[.int .i64 0, .int .i64 0] 26 (0, 0)) (by (with_reducible repeat (first | refine blk_drewN ?_ _ | refine blk_drew ?_ | refine blk_alloc ?_ _)); exact BK240.out) hb); have n2_ := Aside0.mk (below_step (by repeat (first | (with_reducible first | exact HB.out | apply below_alloc | apply pw_below_drewN | apply below_drew1 | refine below_set ?_ GE240.out) | exact HB.out)) hb); clear BK240; clear HB; have HO243 := n0_; have BK240 := n1_; have HB := n2_; clear n0_ n1_ n2_; (try clear hb); (try clear hb2); (try clear hk); (try clear hi); (try clear ho0); have hcz6_0 : w5.cell? ⟨gb240, 0, none⟩ = some (.int .i64 0) := (blk_cell BK240.out 0).trans rfl; have hcz6_1 : w5.cell? ⟨gb240, 1, none⟩ = some (.int .i64 0) := (blk_cell BK240.out 1).trans rfl; have hfz6_0 := blk_frozen BK240.out 0; have hfz6_1 := blk_frozen BK240.out 1))
  refine bodyPost_ret (results_tc rfl _ _ gb240 26 #[.int .i64 t244, .int .i64 t245] (0, 0) _ rfl (by (with_reducible repeat (first | refine blk_drewN ?_ _ | refine blk_drew ?_ | refine blk_alloc ?_ _)); refine blk_put (cs := #[.int .i64 t244, .int .i64 0]) ?_ 1 _ rfl; (with_reducible repeat (first | refine blk_drewN ?_ _ | refine blk_drew ?_ | refine blk_alloc ?_ _)); refine blk_put (cs := #[.int .i64 0, .int .i64 0]) ?_ 0 _ rfl; (with_reducible repeat (first | refine blk_drewN ?_ _ | refine blk_drew ?_ | refine blk_alloc ?_ _)); exact BK240.out) Tryd.underlying26 rfl (by kernel_rfl)) rfl ?_
  exact ⟨_, by first | rfl | (simp [errW_none, errW_some] <;> rfl) | (simp [*, errW_none, errW_some] <;> rfl), by (with_reducible repeat (first | apply Kd.R_alloc | apply Kd.R_drewN | apply Kd.R_drew)); exact Kd.R_mono (Kd.R_far (p := ⟨gb240, 1, none⟩) (Kd.R_far (p := ⟨gb240, 0, none⟩) (Kd.R_types HO243.out BK240.out (by decide)) (fun _ hk => hk.2) (.int .i64 t244)) (fun _ hk => hk.2) (.int .i64 t245)) (fun _ hk => trivial), by repeat (first | (with_reducible first | exact HB.out | apply below_alloc | apply pw_below_drewN | apply below_drew1 | refine below_set ?_ GE240.out) | exact HB.out)⟩
end Go.Proofs.YtaogoabnidbbpaaDoor.PText
/-! PTextH -/
namespace Go.Proofs.YtaogoabnidbbpaaDoor.PText
open Go.RowKit Go.Proofs.YtaogoabnidbbpaaDoorW.PrintWords Go.Proofs.YtaogoabnidbbpaaDoorW.PrintLast Go.Proofs.YtaogoabnidbbpaaDoorW.PrintMore
attribute [local go_sem] max2_int min2_int max_two min_two max_three min_three max_four min_four   -- for this text's walks alone
set_option linter.unusedVariables false
set_option linter.unusedSimpArgs false
attribute [local go_sem high] eqA26
def rejoinderlaw05_ParsePaths.j0 : Nat → Bool → List (S55) → List (S55) → List (S55) → Bool → Int → Int → Int → Int → Option (Bool)
  | 0, _, _, _, _, _, _, _, _, _ => none
  | k + 1, x5, x6, x8, x10, x56, x259000, x259001, x265000, x265001 => if x56 = true then (some x5) else ((rejoinderkit_CopyToks.f x6).bind fun t265 => (if t265.length < 70368744177664 then ((some (t265 ++ [(⟨0, 0⟩ : S55)] : List (S55))).bind fun y268 => (if x5 = true then (if (x259000 == 0 && (x259001 == 0)) = true then (if (x265000 == 0 && (x265001 == 0)) = true then ((rejoinderkit_CopyToks.f y268).bind fun t271 => (if t271.length < 70368744177664 then ((rejoinderkit_SameToks.f k x8 (t271 ++ [(⟨17, 0⟩ : S55)])).bind fun t277 => (if t277 = true then (if y268.length < 70368744177664 then ((rejoinderkit_SameToks.f k x10 (y268 ++ [(⟨18, 0⟩ : S55)])).bind fun t281 => (some t281)) else (none)) else (some false))) else (none))) else (some false)) else (some false)) else (some false))) else (none)))
def rejoinderlaw05_ParsePaths.f (k : Nat) (l0 : List ByteArray) (a1 : ByteArray) : Option (Bool) := (rejoinderlaw05_awake.f k).bind fun t246 => (if (a1.size : Int) > 300 then (some t246) else ((parse_Path.f l0 a1).bind fun bt247 => (if 1 + a1.size ≤ 9223372036854775807 then (if ((⟨#[60]⟩ : ByteArray) ++ a1).size + 6 ≤ 9223372036854775807 then ((parse_Formula.f l0 (((⟨#[60]⟩ : ByteArray) ++ a1) ++ (⟨#[62, 32, 116, 114, 117, 101]⟩ : ByteArray))).bind fun bt253 => (if 2 + a1.size ≤ 9223372036854775807 then (if ((⟨#[91, 40]⟩ : ByteArray) ++ a1).size + 7 ≤ 9223372036854775807 then ((parse_Formula.f l0 (((⟨#[91, 40]⟩ : ByteArray) ++ a1) ++ (⟨#[41, 93, 32, 116, 114, 117, 101]⟩ : ByteArray))).bind fun bt259 => (if (!(bt247.2.1 == 0) || (!(bt247.2.2 == 0))) = true then (if t246 = true then (some ((bt247.1.length : Int) == 0)) else (some false)) else (if bt253.2.1 = 3 then (rejoinderlaw05_ParsePaths.j0 k t246 bt247.1 bt253.1 bt259.1 true bt253.2.1 bt253.2.2 bt259.2.1 bt259.2.2) else (rejoinderlaw05_ParsePaths.j0 k t246 bt247.1 bt253.1 bt259.1 (bt253.2.1 == 8) bt253.2.1 bt253.2.2 bt259.2.1 bt259.2.2)))) else (none)) else (none))) else (none)) else (none))))
theorem rejoinderlaw05_ParsePaths.mono_l : ∀ k, (∀ y0 y1 y2 y3 y4 y5 y6 y7 y8, LeO (rejoinderlaw05_ParsePaths.j0 k y0 y1 y2 y3 y4 y5 y6 y7 y8) (rejoinderlaw05_ParsePaths.j0 (k + 1) y0 y1 y2 y3 y4 y5 y6 y7 y8))
  | 0 => fun _ _ _ _ _ _ _ _ _ r h => by simp [rejoinderlaw05_ParsePaths.j0] at h
  | k + 1 => by
    have ih0 := rejoinderlaw05_ParsePaths.mono_l k
    · intro y0 y1 y2 y3 y4 y5 y6 y7 y8
      unfold rejoinderlaw05_ParsePaths.j0
      repeat' first
      | (with_reducible exact ih0 _ _ _ _ _ _ _ _ _)
      | (with_reducible exact rejoinderkit_SameToks.mono _ _ _)
      | (with_reducible exact rejoinderlaw05_awake.mono _)
      | (with_reducible exact LeO.refl _)
      | (with_reducible exact LeO.none _)
      | (with_reducible refine LeO.ite ?_ ?_)
      | (with_reducible refine LeO.bind ?_ (fun _ => ?_))
      | exact ih0 _ _ _ _ _ _ _ _ _
      | exact rejoinderkit_SameToks.mono _ _ _
      | exact rejoinderlaw05_awake.mono _
      | exact LeO.none _
      | refine LeO.ite ?_ ?_
      | refine LeO.bind ?_ (fun _ => ?_)
theorem rejoinderlaw05_ParsePaths.mono : ∀ a0 a1 k, LeO (rejoinderlaw05_ParsePaths.f k a0 a1) (rejoinderlaw05_ParsePaths.f (k + 1) a0 a1) := by
  intro a0 a1 k
  have ih0 := rejoinderlaw05_ParsePaths.mono_l k
  unfold rejoinderlaw05_ParsePaths.f
  repeat' first
      | (with_reducible exact ih0 _ _ _ _ _ _ _ _ _)
      | (with_reducible exact rejoinderkit_SameToks.mono _ _ _)
      | (with_reducible exact rejoinderlaw05_awake.mono _)
      | (with_reducible exact LeO.refl _)
      | (with_reducible exact LeO.none _)
      | (with_reducible refine LeO.ite ?_ ?_)
      | (with_reducible refine LeO.bind ?_ (fun _ => ?_))
      | exact ih0 _ _ _ _ _ _ _ _ _
      | exact rejoinderkit_SameToks.mono _ _ _
      | exact rejoinderlaw05_awake.mono _
      | exact LeO.none _
      | refine LeO.ite ?_ ?_
      | refine LeO.bind ?_ (fun _ => ?_)
set_option maxHeartbeats 8000000 in
set_option maxRecDepth 100000 in
theorem rejoinderlaw05_ParsePaths.calls (k : Nat) (A0 : Option Addr) (c0 : Nat) (l0 : List ByteArray) (a1 : ByteArray) (r : Bool) (w : World) (hr0 : Kd.C Kd.string w A0 l0.length l0) (hc0 : l0.length ≤ c0) (h : rejoinderlaw05_ParsePaths.f k l0 a1 = some r) (HT : Aside0 (Laid w) := by exact ⟨Laid.later HT.out (by repeat (first | (with_reducible first | exact HB.out | apply below_alloc | apply pw_below_drewN | apply below_drew1) | exact HB.out | (refine below_set ?_ (Aside0.out (by assumption)))))⟩) :
    Calls Tryd.prog 8 #[.slice A0 l0.length c0, .string a1] w fun e w' => e = .returned (.bool r) ∧ Below w.heap.size w w' := by
  have hu26 := Tryd.underlying26
  have hu55 := Tryd.underlying55
  have HR0 := Aside0.mk hr0
  have HC0 := Aside0.mk hc0
  clear hr0 hc0
  have HB := Aside0.mk (Below.refl w.heap.size w)
  have H : ((rejoinderlaw05_awake.f k).bind fun t246 => (if (a1.size : Int) > 300 then (some t246) else ((parse_Path.f l0 a1).bind fun bt247 => (if 1 + a1.size ≤ 9223372036854775807 then (if ((⟨#[60]⟩ : ByteArray) ++ a1).size + 6 ≤ 9223372036854775807 then ((parse_Formula.f l0 (((⟨#[60]⟩ : ByteArray) ++ a1) ++ (⟨#[62, 32, 116, 114, 117, 101]⟩ : ByteArray))).bind fun bt253 => (if 2 + a1.size ≤ 9223372036854775807 then (if ((⟨#[91, 40]⟩ : ByteArray) ++ a1).size + 7 ≤ 9223372036854775807 then ((parse_Formula.f l0 (((⟨#[91, 40]⟩ : ByteArray) ++ a1) ++ (⟨#[41, 93, 32, 116, 114, 117, 101]⟩ : ByteArray))).bind fun bt259 => (if (!(bt247.2.1 == 0) || (!(bt247.2.2 == 0))) = true then (if t246 = true then (some ((bt247.1.length : Int) == 0)) else (some false)) else (if bt253.2.1 = 3 then (rejoinderlaw05_ParsePaths.j0 k t246 bt247.1 bt253.1 bt259.1 true bt253.2.1 bt253.2.2 bt259.2.1 bt259.2.2) else (rejoinderlaw05_ParsePaths.j0 k t246 bt247.1 bt253.1 bt259.1 (bt253.2.1 == 8) bt253.2.1 bt253.2.2 bt259.2.1 bt259.2.2)))) else (none)) else (none))) else (none)) else (none))))) = some r := h
  clear h
  replace H := Option.bind_eq_some_iff.mp H
  obtain ⟨t246, A30, H⟩ := H
  replace H : (if (a1.size : Int) > 300 then (some t246) else ((parse_Path.f l0 a1).bind fun bt247 => (if 1 + a1.size ≤ 9223372036854775807 then (if ((⟨#[60]⟩ : ByteArray) ++ a1).size + 6 ≤ 9223372036854775807 then ((parse_Formula.f l0 (((⟨#[60]⟩ : ByteArray) ++ a1) ++ (⟨#[62, 32, 116, 114, 117, 101]⟩ : ByteArray))).bind fun bt253 => (if 2 + a1.size ≤ 9223372036854775807 then (if ((⟨#[91, 40]⟩ : ByteArray) ++ a1).size + 7 ≤ 9223372036854775807 then ((parse_Formula.f l0 (((⟨#[91, 40]⟩ : ByteArray) ++ a1) ++ (⟨#[41, 93, 32, 116, 114, 117, 101]⟩ : ByteArray))).bind fun bt259 => (if (!(bt247.2.1 == 0) || (!(bt247.2.2 == 0))) = true then (if t246 = true then (some ((bt247.1.length : Int) == 0)) else (some false)) else (if bt253.2.1 = 3 then (rejoinderlaw05_ParsePaths.j0 k t246 bt247.1 bt253.1 bt259.1 true bt253.2.1 bt253.2.2 bt259.2.1 bt259.2.2) else (rejoinderlaw05_ParsePaths.j0 k t246 bt247.1 bt253.1 bt259.1 (bt253.2.1 == 8) bt253.2.1 bt253.2.2 bt259.2.1 bt259.2.2)))) else (none)) else (none))) else (none)) else (none)))) = some r := H
  have A3 := Aside0.mk A30
  clear A30
  by_cases c4 : (a1.size : Int) > 300
  · rw [if_pos c4] at H
    have c4b0 : decide (300 < (a1.size : Int)) = true := decide_eq_true c4
    have c4b1 : decide (300 < a1.size) = true := decide_eq_true (by omega)
    clear c4
    obtain rfl := Option.some.inj H
    go_enter Tryd.func8, Tryd.ntmps8
    go_wp2_with (first | ((with_reducible refine gate_callee (f := 25) rfl ?_); refine goesL_ (some 13) rfl rfl Tryd.func25 (by kernel_rfl) rfl #[] rfl (by (try simp only [List.map_toArray, List.map_cons, List.map_nil]); first | done | rfl | (simp only [List.length_drop, List.length_take]; rfl)) ?_; (with_reducible refine (rejoinderlaw05_awake.calls k  t246 _ A3.out).mono ?_); rintro e w5 ⟨rfl, hb⟩; refine ⟨_, rfl, ?_⟩; have n0_ := Aside0.mk (below_step (by repeat (first | (with_reducible first | exact HB.out | apply below_alloc | apply pw_below_drewN | apply below_drew1) | exact HB.out)) hb); clear HB; have HB := n0_; clear n0_; (try clear hb); (try clear hb2); (try clear hk); (try clear hi)))
    go_ret
    exact ⟨by first | rfl | (simp [errW_none, errW_some] <;> rfl) | (simp [*, errW_none, errW_some] <;> rfl), by repeat (first | (with_reducible first | exact HB.out | apply below_alloc | apply pw_below_drewN | apply below_drew1) | exact HB.out)⟩
  · rw [if_neg c4] at H
    have c4b0 : decide (300 < (a1.size : Int)) = false := decide_eq_false c4
    have c4b1 : decide (300 < a1.size) = false := decide_eq_false (by omega)
    clear c4
    replace H := Option.bind_eq_some_iff.mp H
    obtain ⟨⟨t247, t250, t251⟩, A60, H⟩ := H
    replace H : (if 1 + a1.size ≤ 9223372036854775807 then (if ((⟨#[60]⟩ : ByteArray) ++ a1).size + 6 ≤ 9223372036854775807 then ((parse_Formula.f l0 (((⟨#[60]⟩ : ByteArray) ++ a1) ++ (⟨#[62, 32, 116, 114, 117, 101]⟩ : ByteArray))).bind fun bt253 => (if 2 + a1.size ≤ 9223372036854775807 then (if ((⟨#[91, 40]⟩ : ByteArray) ++ a1).size + 7 ≤ 9223372036854775807 then ((parse_Formula.f l0 (((⟨#[91, 40]⟩ : ByteArray) ++ a1) ++ (⟨#[41, 93, 32, 116, 114, 117, 101]⟩ : ByteArray))).bind fun bt259 => (if (!(t250 == 0) || (!(t251 == 0))) = true then (if t246 = true then (some ((t247.length : Int) == 0)) else (some false)) else (if bt253.2.1 = 3 then (rejoinderlaw05_ParsePaths.j0 k t246 t247 bt253.1 bt259.1 true bt253.2.1 bt253.2.2 bt259.2.1 bt259.2.2) else (rejoinderlaw05_ParsePaths.j0 k t246 t247 bt253.1 bt259.1 (bt253.2.1 == 8) bt253.2.1 bt253.2.2 bt259.2.1 bt259.2.2)))) else (none)) else (none))) else (none)) else (none)) = some r := H
    have A6 := Aside0.mk A60
    clear A60
    by_cases c7 : 1 + a1.size ≤ 9223372036854775807
    · rw [if_pos c7] at H
      have c7b0 := eq_true c7
      have c7b1 : decide (1 + a1.size ≤ 9223372036854775807) = true := decide_eq_true c7
      try have c7b2 : (9223372036854775807 < 1 + a1.size) = False := eq_false (Nat.not_lt.2 c7)
      by_cases c8 : ((⟨#[60]⟩ : ByteArray) ++ a1).size + 6 ≤ 9223372036854775807
      · rw [if_pos c8] at H
        have c8b0 := eq_true c8
        have c8b1 : decide (((⟨#[60]⟩ : ByteArray) ++ a1).size + 6 ≤ 9223372036854775807) = true := decide_eq_true c8
        try have c8b2 : (9223372036854775807 < ((⟨#[60]⟩ : ByteArray) ++ a1).size + 6) = False := eq_false (Nat.not_lt.2 c8)
        have c8b3 : (9223372036854775807 < 1 + a1.size + 6) = False := by have h_ := c8b2; rw [ByteArray.size_append] at h_; exact h_
        have c8b4 : decide (9223372036854775807 < 1 + a1.size + 6) = false := decide_eq_false (of_eq_false c8b3)
        replace H := Option.bind_eq_some_iff.mp H
        obtain ⟨⟨t253, t256, t257⟩, A90, H⟩ := H
        replace H : (if 2 + a1.size ≤ 9223372036854775807 then (if ((⟨#[91, 40]⟩ : ByteArray) ++ a1).size + 7 ≤ 9223372036854775807 then ((parse_Formula.f l0 (((⟨#[91, 40]⟩ : ByteArray) ++ a1) ++ (⟨#[41, 93, 32, 116, 114, 117, 101]⟩ : ByteArray))).bind fun bt259 => (if (!(t250 == 0) || (!(t251 == 0))) = true then (if t246 = true then (some ((t247.length : Int) == 0)) else (some false)) else (if t256 = 3 then (rejoinderlaw05_ParsePaths.j0 k t246 t247 t253 bt259.1 true t256 t257 bt259.2.1 bt259.2.2) else (rejoinderlaw05_ParsePaths.j0 k t246 t247 t253 bt259.1 (t256 == 8) t256 t257 bt259.2.1 bt259.2.2)))) else (none)) else (none)) = some r := H
        have A9 := Aside0.mk A90
        clear A90
        by_cases c10 : 2 + a1.size ≤ 9223372036854775807
        · rw [if_pos c10] at H
          have c10b0 := eq_true c10
          have c10b1 : decide (2 + a1.size ≤ 9223372036854775807) = true := decide_eq_true c10
          try have c10b2 : (9223372036854775807 < 2 + a1.size) = False := eq_false (Nat.not_lt.2 c10)
          by_cases c11 : ((⟨#[91, 40]⟩ : ByteArray) ++ a1).size + 7 ≤ 9223372036854775807
          · rw [if_pos c11] at H
            have c11b0 := eq_true c11
            have c11b1 : decide (((⟨#[91, 40]⟩ : ByteArray) ++ a1).size + 7 ≤ 9223372036854775807) = true := decide_eq_true c11
            try have c11b2 : (9223372036854775807 < ((⟨#[91, 40]⟩ : ByteArray) ++ a1).size + 7) = False := eq_false (Nat.not_lt.2 c11)
            have c11b3 : (9223372036854775807 < 2 + a1.size + 7) = False := by have h_ := c11b2; rw [ByteArray.size_append] at h_; exact h_
            have c11b4 : decide (9223372036854775807 < 2 + a1.size + 7) = false := decide_eq_false (of_eq_false c11b3)
            replace H := Option.bind_eq_some_iff.mp H
            obtain ⟨⟨t259, t262, t263⟩, A120, H⟩ := H
            replace H : (if (!(t250 == 0) || (!(t251 == 0))) = true then (if t246 = true then (some ((t247.length : Int) == 0)) else (some false)) else (if t256 = 3 then (rejoinderlaw05_ParsePaths.j0 k t246 t247 t253 t259 true t256 t257 t262 t263) else (rejoinderlaw05_ParsePaths.j0 k t246 t247 t253 t259 (t256 == 8) t256 t257 t262 t263))) = some r := H
            have A12 := Aside0.mk A120
            clear A120
            by_cases c13 : (!(t250 == 0) || (!(t251 == 0))) = true
            · rw [if_pos c13] at H
              have c13b0 : (!(t250 == 0) || (!(t251 == 0))) = true := c13
              clear c13
              by_cases c14 : t246 = true
              · subst c14
                have H1 : (some ((t247.length : Int) == 0)) = some r := by rw [if_pos rfl] at H; exact H
                clear H
                have H := H1
                clear H1
                obtain rfl := Option.some.inj H
                go_enter Tryd.func8, Tryd.ntmps8
                go_wp2_with (first | ((with_reducible refine gate_callee (f := 25) rfl ?_); refine goesL_ (some 13) rfl rfl Tryd.func25 (by kernel_rfl) rfl #[] rfl (by (try simp only [List.map_toArray, List.map_cons, List.map_nil]); first | done | rfl | (simp only [List.length_drop, List.length_take]; rfl)) ?_; (with_reducible refine (rejoinderlaw05_awake.calls k  true _ A3.out).mono ?_); rintro e w15 ⟨rfl, hb⟩; refine ⟨_, rfl, ?_⟩; have n0_ := Aside0.mk (below_step (by repeat (first | (with_reducible first | exact HB.out | apply below_alloc | apply pw_below_drewN | apply below_drew1) | exact HB.out)) hb); clear HB; have HB := n0_; clear n0_; (try clear hb); (try clear hb2); (try clear hk); (try clear hi)) | ((with_reducible refine gate_callee (f := 31) rfl ?_); refine goesL_ (some 21) rfl rfl Tryd.func31 (by kernel_rfl) rfl #[.slice A0 l0.length c0, .string a1] rfl (by (try simp only [List.map_toArray, List.map_cons, List.map_nil]); first | done | rfl | (simp only [List.length_drop, List.length_take]; rfl)) ?_; (with_reducible refine (parse_Path.calls _ _ l0 a1 t247 t250 t251 _ ?side1 ?side2 A6.out).mono ?_); (case side1 => repeat (first | exact (Kd.C_below HR0.out HB.out) | (with_reducible refine Kd.C_alloc ?_ _) | (with_reducible refine Kd.C_drewN ?_ _) | (with_reducible refine Kd.C_drew ?_))); (case side2 => exact HC0.out); rintro e w16 ⟨v248, rfl, ho0, hb⟩; refine ⟨_, rfl, ?_⟩; have n0_ := Aside0.mk (Kd.R_lower ho0 (below_size (by repeat (first | (with_reducible first | exact HB.out | apply below_alloc | apply pw_below_drewN | apply below_drew1) | exact HB.out)))); have n1_ := Aside0.mk (below_step (by repeat (first | (with_reducible first | exact HB.out | apply below_alloc | apply pw_below_drewN | apply below_drew1) | exact HB.out)) hb); clear HB; have HO249 := n0_; have HB := n1_; clear n0_ n1_; (try clear hb); (try clear hb2); (try clear hk); (try clear hi); (try clear ho0)) | ((with_reducible refine gate_dst (N := 7) rfl ?_); (try (refine gate_guard (by rfl) ?_; dsimp only)); refine box_event ?hg (N := 7) ?hd (cs := #[.int .i64 0, .int .i64 0]) (t := 26) ?hr ?_; (case hd => rfl); (case hg => rfl); (case hr => first | (go_simp; done) | (go_simp; rfl)); intro gb252 hg w17 hbox hb; have n0_ := Aside0.mk (Kd.R_below (by (with_reducible repeat (first | apply Kd.R_alloc | apply Kd.R_drewN | apply Kd.R_drew)); exact HO249.out) hb); have n1_ := Aside0.mk (below_step (by repeat (first | (with_reducible first | exact HB.out | apply below_alloc | apply pw_below_drewN | apply below_drew1) | exact HB.out)) hb); have n2_ := Aside0.mk (hbox); have n3_ := Aside0.mk ((by rw [hg]; exact (below_size (by repeat (first | (with_reducible first | exact HB.out | apply below_alloc | apply pw_below_drewN | apply below_drew1) | exact HB.out))) : w.heap.size ≤ gb252)); have n4_ := Aside0.mk ((by rw [hg]; exact (below_size (by repeat (first | (with_reducible first | exact HB.out | apply below_alloc | apply pw_below_drewN | apply below_drew1) | exact HB.out))) : w.heap.size ≤ gb252)); clear HO249; clear HB; have HO249 := n0_; have HB := n1_; have BK252 := n2_; have GW252 := n3_; have GE252 := n4_; clear n0_ n1_ n2_ n3_ n4_; clear hb hbox hg; have hcz18_0 : w17.cell? ⟨gb252, 0, none⟩ = some (.int .i64 0) := (blk_cell BK252.out 0).trans rfl; have hcz18_1 : w17.cell? ⟨gb252, 1, none⟩ = some (.int .i64 0) := (blk_cell BK252.out 1).trans rfl; have hfz18_0 := blk_frozen BK252.out 0; have hfz18_1 := blk_frozen BK252.out 1) | ((with_reducible refine gate_callee (f := 26) rfl ?_); refine goesL_ (some 29) rfl rfl Tryd.func26 (by kernel_rfl) rfl #[.slice A0 l0.length c0, .string (((⟨#[60]⟩ : ByteArray) ++ a1) ++ (⟨#[62, 32, 116, 114, 117, 101]⟩ : ByteArray))] rfl (by (try simp only [List.map_toArray, List.map_cons, List.map_nil]); first | done | rfl | (simp only [List.length_drop, List.length_take]; rfl)) ?_; (with_reducible refine (parse_Formula.calls _ _ l0 (((⟨#[60]⟩ : ByteArray) ++ a1) ++ (⟨#[62, 32, 116, 114, 117, 101]⟩ : ByteArray)) t253 t256 t257 _ ?side1 ?side2 A9.out).mono ?_); (case side1 => exact Kd.C_below HR0.out (by repeat (first | (with_reducible first | exact HB.out | apply below_alloc | apply pw_below_drewN | apply below_drew1 | refine below_set ?_ GE252.out) | exact HB.out))); (case side2 => exact HC0.out); rintro e w19 ⟨v254, rfl, ho0, hb⟩; refine ⟨_, rfl, ?_⟩; have n0_ := Aside0.mk (Kd.R_elder' (by (with_reducible repeat (first | apply Kd.R_alloc | apply Kd.R_drewN | apply Kd.R_drew)); exact (Kd.R_mono (Kd.R_far (p := ⟨gb252, 1, none⟩) (Kd.R_far (p := ⟨gb252, 0, none⟩) (Kd.R_types HO249.out BK252.out (by decide)) (fun _ hk => hk.2) (.int .i64 t250)) (fun _ hk => hk.2) (.int .i64 t251)) (fun _ h_ => h_.1))) (Kd.R_base ho0) hb); have n1_ := Aside0.mk (Kd.R_lower (Kd.R_new' ho0 (Kd.R_lt (by (with_reducible repeat (first | apply Kd.R_alloc | apply Kd.R_drewN | apply Kd.R_drew)); exact (Kd.R_mono (Kd.R_far (p := ⟨gb252, 1, none⟩) (Kd.R_far (p := ⟨gb252, 0, none⟩) (Kd.R_types HO249.out BK252.out (by decide)) (fun _ hk => hk.2) (.int .i64 t250)) (fun _ hk => hk.2) (.int .i64 t251)) (fun _ h_ => h_.1))))) (below_size (by repeat (first | (with_reducible first | exact HB.out | apply below_alloc | apply pw_below_drewN | apply below_drew1 | refine below_set ?_ GE252.out) | exact HB.out)))); have n2_ := Aside0.mk (blk_below (g := gb252) (o := .cells #[.int .i64 t250, .int .i64 t251] 26 (0, 0)) (by (with_reducible repeat (first | refine blk_drewN ?_ _ | refine blk_drew ?_ | refine blk_alloc ?_ _)); refine blk_put (cs := #[.int .i64 t250, .int .i64 0]) ?_ 1 _ rfl; (with_reducible repeat (first | refine blk_drewN ?_ _ | refine blk_drew ?_ | refine blk_alloc ?_ _)); refine blk_put (cs := #[.int .i64 0, .int .i64 0]) ?_ 0 _ rfl; (with_reducible repeat (first | refine blk_drewN ?_ _ | refine blk_drew ?_ | refine blk_alloc ?_ _)); exact BK252.out) hb); have n3_ := Aside0.mk (below_step (by repeat (first | (with_reducible first | exact HB.out | apply below_alloc | apply pw_below_drewN | apply below_drew1 | refine below_set ?_ GE252.out) | exact HB.out)) hb); clear HO249; clear BK252; clear HB; have HO249 := n0_; have HO255 := n1_; have BK252 := n2_; have HB := n3_; clear n0_ n1_ n2_ n3_; (try clear hb); (try clear hb2); (try clear hk); (try clear hi); (try clear ho0)) | ((with_reducible refine gate_dst (N := 9) rfl ?_); (try (refine gate_guard (by rfl) ?_; dsimp only)); refine box_event ?hg (N := 9) ?hd (cs := #[.int .i64 0, .int .i64 0]) (t := 26) ?hr ?_; (case hd => rfl); (case hg => rfl); (case hr => first | (go_simp; done) | (go_simp; rfl)); intro gb258 hg w20 hbox hb; have n0_ := Aside0.mk (Kd.R_below (by (with_reducible repeat (first | apply Kd.R_alloc | apply Kd.R_drewN | apply Kd.R_drew)); exact HO249.out) hb); have n1_ := Aside0.mk (Kd.R_below (by (with_reducible repeat (first | apply Kd.R_alloc | apply Kd.R_drewN | apply Kd.R_drew)); exact HO255.out) hb); have n2_ := Aside0.mk (blk_below (g := gb252) (o := .cells #[.int .i64 t250, .int .i64 t251] 26 (0, 0)) (by (with_reducible repeat (first | refine blk_drewN ?_ _ | refine blk_drew ?_ | refine blk_alloc ?_ _)); exact BK252.out) hb); have n3_ := Aside0.mk (below_step (by repeat (first | (with_reducible first | exact HB.out | apply below_alloc | apply pw_below_drewN | apply below_drew1 | refine below_set ?_ GE252.out) | exact HB.out)) hb); have n4_ := Aside0.mk (hbox); have n5_ := Aside0.mk ((by rw [hg]; exact (below_size (by repeat (first | (with_reducible first | exact HB.out | apply below_alloc | apply pw_below_drewN | apply below_drew1 | refine below_set ?_ GE252.out) | exact HB.out))) : w.heap.size ≤ gb258)); have n6_ := Aside0.mk ((by rw [hg]; exact (below_size (by repeat (first | (with_reducible first | exact HB.out | apply below_alloc | apply pw_below_drewN | apply below_drew1 | refine below_set ?_ GE252.out) | exact HB.out))) : w.heap.size ≤ gb258)); have n7_ := Aside0.mk ((by rw [hg]; exact Nat.ne_of_lt (blk_lt (g := gb252) (o := .cells #[.int .i64 t250, .int .i64 t251] 26 (0, 0)) (by (with_reducible repeat (first | refine blk_drewN ?_ _ | refine blk_drew ?_ | refine blk_alloc ?_ _)); exact BK252.out)) : gb252 ≠ gb258)); have n8_ := Aside0.mk ((by rw [hg]; exact Nat.ne_of_gt (blk_lt (g := gb252) (o := .cells #[.int .i64 t250, .int .i64 t251] 26 (0, 0)) (by (with_reducible repeat (first | refine blk_drewN ?_ _ | refine blk_drew ?_ | refine blk_alloc ?_ _)); exact BK252.out)) : gb258 ≠ gb252)); clear HO249; clear HO255; clear BK252; clear HB; have HO249 := n0_; have HO255 := n1_; have BK252 := n2_; have HB := n3_; have BK258 := n4_; have GW258 := n5_; have GE258 := n6_; have NB252_258 := n7_; have NB258_252 := n8_; clear n0_ n1_ n2_ n3_ n4_ n5_ n6_ n7_ n8_; clear hb hbox hg; have hnb21 := NB258_252.out; have hnc21 := NB252_258.out; have hcz22_0 : w20.cell? ⟨gb258, 0, none⟩ = some (.int .i64 0) := (blk_cell BK258.out 0).trans rfl; have hcz22_1 : w20.cell? ⟨gb258, 1, none⟩ = some (.int .i64 0) := (blk_cell BK258.out 1).trans rfl; have hfz22_0 := blk_frozen BK258.out 0; have hfz22_1 := blk_frozen BK258.out 1) | ((with_reducible refine gate_callee (f := 26) rfl ?_); refine goesL_ (some 37) rfl rfl Tryd.func26 (by kernel_rfl) rfl #[.slice A0 l0.length c0, .string (((⟨#[91, 40]⟩ : ByteArray) ++ a1) ++ (⟨#[41, 93, 32, 116, 114, 117, 101]⟩ : ByteArray))] rfl (by (try simp only [List.map_toArray, List.map_cons, List.map_nil]); first | done | rfl | (simp only [List.length_drop, List.length_take]; rfl)) ?_; (with_reducible refine (parse_Formula.calls _ _ l0 (((⟨#[91, 40]⟩ : ByteArray) ++ a1) ++ (⟨#[41, 93, 32, 116, 114, 117, 101]⟩ : ByteArray)) t259 t262 t263 _ ?side1 ?side2 A12.out).mono ?_); (case side1 => exact Kd.C_below HR0.out (by repeat (first | (with_reducible first | exact HB.out | apply below_alloc | apply pw_below_drewN | apply below_drew1 | refine below_set ?_ GE252.out | refine below_set ?_ GE258.out) | exact HB.out))); (case side2 => exact HC0.out); rintro e w23 ⟨v260, rfl, ho0, hb⟩; refine ⟨_, rfl, ?_⟩; have n0_ := Aside0.mk (Kd.R_elder' (by (with_reducible repeat (first | apply Kd.R_alloc | apply Kd.R_drewN | apply Kd.R_drew)); exact (Kd.R_mono (Kd.R_far (p := ⟨gb258, 1, none⟩) (Kd.R_far (p := ⟨gb258, 0, none⟩) (Kd.R_types HO249.out BK258.out (by decide)) (fun _ hk => hk.2) (.int .i64 t256)) (fun _ hk => hk.2) (.int .i64 t257)) (fun _ h_ => h_.1))) (Kd.R_base ho0) hb); have n1_ := Aside0.mk (Kd.R_elder' (by (with_reducible repeat (first | apply Kd.R_alloc | apply Kd.R_drewN | apply Kd.R_drew)); exact (Kd.R_mono (Kd.R_far (p := ⟨gb258, 1, none⟩) (Kd.R_far (p := ⟨gb258, 0, none⟩) (Kd.R_types HO255.out BK258.out (by decide)) (fun _ hk => hk.2) (.int .i64 t256)) (fun _ hk => hk.2) (.int .i64 t257)) (fun _ h_ => h_.1))) (Kd.R_base ho0) hb); have n2_ := Aside0.mk (Kd.R_lower (Kd.R_new' (Kd.R_new' ho0 (Kd.R_lt (by (with_reducible repeat (first | apply Kd.R_alloc | apply Kd.R_drewN | apply Kd.R_drew)); exact (Kd.R_mono (Kd.R_far (p := ⟨gb258, 1, none⟩) (Kd.R_far (p := ⟨gb258, 0, none⟩) (Kd.R_types HO249.out BK258.out (by decide)) (fun _ hk => hk.2) (.int .i64 t256)) (fun _ hk => hk.2) (.int .i64 t257)) (fun _ h_ => h_.1))))) (Kd.R_lt (by (with_reducible repeat (first | apply Kd.R_alloc | apply Kd.R_drewN | apply Kd.R_drew)); exact (Kd.R_mono (Kd.R_far (p := ⟨gb258, 1, none⟩) (Kd.R_far (p := ⟨gb258, 0, none⟩) (Kd.R_types HO255.out BK258.out (by decide)) (fun _ hk => hk.2) (.int .i64 t256)) (fun _ hk => hk.2) (.int .i64 t257)) (fun _ h_ => h_.1))))) (below_size (by repeat (first | (with_reducible first | exact HB.out | apply below_alloc | apply pw_below_drewN | apply below_drew1 | refine below_set ?_ GE252.out | refine below_set ?_ GE258.out) | exact HB.out)))); have n3_ := Aside0.mk (blk_below (g := gb252) (o := .cells #[.int .i64 t250, .int .i64 t251] 26 (0, 0)) (by (with_reducible repeat (first | refine blk_drewN ?_ _ | refine blk_drew ?_ | refine blk_alloc ?_ _)); refine blk_far ?_ NB252_258.out _; (with_reducible repeat (first | refine blk_drewN ?_ _ | refine blk_drew ?_ | refine blk_alloc ?_ _)); refine blk_far ?_ NB252_258.out _; (with_reducible repeat (first | refine blk_drewN ?_ _ | refine blk_drew ?_ | refine blk_alloc ?_ _)); exact BK252.out) hb); have n4_ := Aside0.mk (blk_below (g := gb258) (o := .cells #[.int .i64 t256, .int .i64 t257] 26 (0, 0)) (by (with_reducible repeat (first | refine blk_drewN ?_ _ | refine blk_drew ?_ | refine blk_alloc ?_ _)); refine blk_put (cs := #[.int .i64 t256, .int .i64 0]) ?_ 1 _ rfl; (with_reducible repeat (first | refine blk_drewN ?_ _ | refine blk_drew ?_ | refine blk_alloc ?_ _)); refine blk_put (cs := #[.int .i64 0, .int .i64 0]) ?_ 0 _ rfl; (with_reducible repeat (first | refine blk_drewN ?_ _ | refine blk_drew ?_ | refine blk_alloc ?_ _)); exact BK258.out) hb); have n5_ := Aside0.mk (below_step (by repeat (first | (with_reducible first | exact HB.out | apply below_alloc | apply pw_below_drewN | apply below_drew1 | refine below_set ?_ GE252.out | refine below_set ?_ GE258.out) | exact HB.out)) hb); clear HO249; clear HO255; clear BK252; clear BK258; clear HB; have HO249 := n0_; have HO255 := n1_; have HO261 := n2_; have BK252 := n3_; have BK258 := n4_; have HB := n5_; clear n0_ n1_ n2_ n3_ n4_ n5_; (try clear hb); (try clear hb2); (try clear hk); (try clear hi); (try clear ho0)) | ((with_reducible refine gate_dst (N := 11) rfl ?_); (try (refine gate_guard (by rfl) ?_; dsimp only)); refine box_event ?hg (N := 11) ?hd (cs := #[.int .i64 0, .int .i64 0]) (t := 26) ?hr ?_; (case hd => rfl); (case hg => rfl); (case hr => first | (go_simp; done) | (go_simp; rfl)); intro gb264 hg w24 hbox hb; have n0_ := Aside0.mk (Kd.R_below (by (with_reducible repeat (first | apply Kd.R_alloc | apply Kd.R_drewN | apply Kd.R_drew)); exact HO249.out) hb); have n1_ := Aside0.mk (Kd.R_below (by (with_reducible repeat (first | apply Kd.R_alloc | apply Kd.R_drewN | apply Kd.R_drew)); exact HO255.out) hb); have n2_ := Aside0.mk (Kd.R_below (by (with_reducible repeat (first | apply Kd.R_alloc | apply Kd.R_drewN | apply Kd.R_drew)); exact HO261.out) hb); have n3_ := Aside0.mk (blk_below (g := gb252) (o := .cells #[.int .i64 t250, .int .i64 t251] 26 (0, 0)) (by (with_reducible repeat (first | refine blk_drewN ?_ _ | refine blk_drew ?_ | refine blk_alloc ?_ _)); exact BK252.out) hb); have n4_ := Aside0.mk (blk_below (g := gb258) (o := .cells #[.int .i64 t256, .int .i64 t257] 26 (0, 0)) (by (with_reducible repeat (first | refine blk_drewN ?_ _ | refine blk_drew ?_ | refine blk_alloc ?_ _)); exact BK258.out) hb); have n5_ := Aside0.mk (below_step (by repeat (first | (with_reducible first | exact HB.out | apply below_alloc | apply pw_below_drewN | apply below_drew1 | refine below_set ?_ GE252.out | refine below_set ?_ GE258.out) | exact HB.out)) hb); have n6_ := Aside0.mk (hbox); have n7_ := Aside0.mk ((by rw [hg]; exact (below_size (by repeat (first | (with_reducible first | exact HB.out | apply below_alloc | apply pw_below_drewN | apply below_drew1 | refine below_set ?_ GE252.out | refine below_set ?_ GE258.out) | exact HB.out))) : w.heap.size ≤ gb264)); have n8_ := Aside0.mk ((by rw [hg]; exact (below_size (by repeat (first | (with_reducible first | exact HB.out | apply below_alloc | apply pw_below_drewN | apply below_drew1 | refine below_set ?_ GE252.out | refine below_set ?_ GE258.out) | exact HB.out))) : w.heap.size ≤ gb264)); have n9_ := Aside0.mk ((by rw [hg]; exact Nat.ne_of_lt (blk_lt (g := gb252) (o := .cells #[.int .i64 t250, .int .i64 t251] 26 (0, 0)) (by (with_reducible repeat (first | refine blk_drewN ?_ _ | refine blk_drew ?_ | refine blk_alloc ?_ _)); exact BK252.out)) : gb252 ≠ gb264)); have n10_ := Aside0.mk ((by rw [hg]; exact Nat.ne_of_gt (blk_lt (g := gb252) (o := .cells #[.int .i64 t250, .int .i64 t251] 26 (0, 0)) (by (with_reducible repeat (first | refine blk_drewN ?_ _ | refine blk_drew ?_ | refine blk_alloc ?_ _)); exact BK252.out)) : gb264 ≠ gb252)); have n11_ := Aside0.mk ((by rw [hg]; exact Nat.ne_of_lt (blk_lt (g := gb258) (o := .cells #[.int .i64 t256, .int .i64 t257] 26 (0, 0)) (by (with_reducible repeat (first | refine blk_drewN ?_ _ | refine blk_drew ?_ | refine blk_alloc ?_ _)); exact BK258.out)) : gb258 ≠ gb264)); have n12_ := Aside0.mk ((by rw [hg]; exact Nat.ne_of_gt (blk_lt (g := gb258) (o := .cells #[.int .i64 t256, .int .i64 t257] 26 (0, 0)) (by (with_reducible repeat (first | refine blk_drewN ?_ _ | refine blk_drew ?_ | refine blk_alloc ?_ _)); exact BK258.out)) : gb264 ≠ gb258)); clear HO249; clear HO255; clear HO261; clear BK252; clear BK258; clear HB; have HO249 := n0_; have HO255 := n1_; have HO261 := n2_; have BK252 := n3_; have BK258 := n4_; have HB := n5_; have BK264 := n6_; have GW264 := n7_; have GE264 := n8_; have NB252_264 := n9_; have NB264_252 := n10_; have NB258_264 := n11_; have NB264_258 := n12_; clear n0_ n1_ n2_ n3_ n4_ n5_ n6_ n7_ n8_ n9_ n10_ n11_ n12_; clear hb hbox hg; have hnb25 := NB264_252.out; have hnc25 := NB252_264.out; have hnb26 := NB264_258.out; have hnc26 := NB258_264.out; have hcz27_0 : w24.cell? ⟨gb264, 0, none⟩ = some (.int .i64 0) := (blk_cell BK264.out 0).trans rfl; have hcz27_1 : w24.cell? ⟨gb264, 1, none⟩ = some (.int .i64 0) := (blk_cell BK264.out 1).trans rfl; have hfz27_0 := blk_frozen BK264.out 0; have hfz27_1 := blk_frozen BK264.out 1; have hcz28_0 : w24.cell? ⟨gb252, 0, none⟩ = some (.int .i64 t250) := (blk_cell BK252.out 0).trans rfl; have hcz28_1 : w24.cell? ⟨gb252, 1, none⟩ = some (.int .i64 t251) := (blk_cell BK252.out 1).trans rfl; have hfz28_0 := blk_frozen BK252.out 0; have hfz28_1 := blk_frozen BK252.out 1; obtain ⟨Ao29, co29, eo29⟩ := Kd.R_slice HO249.out; subst eo29))
                go_ret
                exact ⟨by first | rfl | (simp [errW_none, errW_some] <;> rfl) | (simp [*, errW_none, errW_some] <;> rfl), by repeat (first | (with_reducible first | exact HB.out | apply below_alloc | apply pw_below_drewN | apply below_drew1 | refine below_set ?_ GE252.out | refine below_set ?_ GE258.out | refine below_set ?_ GE264.out) | exact HB.out)⟩
              · replace c14 := Bool.eq_false_iff.mpr c14
                subst c14
                have H1 : (some false) = some r := by rw [if_neg (show ¬ (false = true) by decide)] at H; exact H
                clear H
                have H := H1
                clear H1
                obtain rfl := Option.some.inj H
                go_enter Tryd.func8, Tryd.ntmps8
                go_wp2_with (first | ((with_reducible refine gate_callee (f := 25) rfl ?_); refine goesL_ (some 13) rfl rfl Tryd.func25 (by kernel_rfl) rfl #[] rfl (by (try simp only [List.map_toArray, List.map_cons, List.map_nil]); first | done | rfl | (simp only [List.length_drop, List.length_take]; rfl)) ?_; (with_reducible refine (rejoinderlaw05_awake.calls k  false _ A3.out).mono ?_); rintro e w30 ⟨rfl, hb⟩; refine ⟨_, rfl, ?_⟩; have n0_ := Aside0.mk (below_step (by repeat (first | (with_reducible first | exact HB.out | apply below_alloc | apply pw_below_drewN | apply below_drew1) | exact HB.out)) hb); clear HB; have HB := n0_; clear n0_; (try clear hb); (try clear hb2); (try clear hk); (try clear hi)) | ((with_reducible refine gate_callee (f := 31) rfl ?_); refine goesL_ (some 21) rfl rfl Tryd.func31 (by kernel_rfl) rfl #[.slice A0 l0.length c0, .string a1] rfl (by (try simp only [List.map_toArray, List.map_cons, List.map_nil]); first | done | rfl | (simp only [List.length_drop, List.length_take]; rfl)) ?_; (with_reducible refine (parse_Path.calls _ _ l0 a1 t247 t250 t251 _ ?side1 ?side2 A6.out).mono ?_); (case side1 => repeat (first | exact (Kd.C_below HR0.out HB.out) | (with_reducible refine Kd.C_alloc ?_ _) | (with_reducible refine Kd.C_drewN ?_ _) | (with_reducible refine Kd.C_drew ?_))); (case side2 => exact HC0.out); rintro e w31 ⟨v248, rfl, ho0, hb⟩; refine ⟨_, rfl, ?_⟩; have n0_ := Aside0.mk (Kd.R_lower ho0 (below_size (by repeat (first | (with_reducible first | exact HB.out | apply below_alloc | apply pw_below_drewN | apply below_drew1) | exact HB.out)))); have n1_ := Aside0.mk (below_step (by repeat (first | (with_reducible first | exact HB.out | apply below_alloc | apply pw_below_drewN | apply below_drew1) | exact HB.out)) hb); clear HB; have HO249 := n0_; have HB := n1_; clear n0_ n1_; (try clear hb); (try clear hb2); (try clear hk); (try clear hi); (try clear ho0)) | ((with_reducible refine gate_dst (N := 7) rfl ?_); (try (refine gate_guard (by rfl) ?_; dsimp only)); refine box_event ?hg (N := 7) ?hd (cs := #[.int .i64 0, .int .i64 0]) (t := 26) ?hr ?_; (case hd => rfl); (case hg => rfl); (case hr => first | (go_simp; done) | (go_simp; rfl)); intro gb252 hg w32 hbox hb; have n0_ := Aside0.mk (Kd.R_below (by (with_reducible repeat (first | apply Kd.R_alloc | apply Kd.R_drewN | apply Kd.R_drew)); exact HO249.out) hb); have n1_ := Aside0.mk (below_step (by repeat (first | (with_reducible first | exact HB.out | apply below_alloc | apply pw_below_drewN | apply below_drew1) | exact HB.out)) hb); have n2_ := Aside0.mk (hbox); have n3_ := Aside0.mk ((by rw [hg]; exact (below_size (by repeat (first | (with_reducible first | exact HB.out | apply below_alloc | apply pw_below_drewN | apply below_drew1) | exact HB.out))) : w.heap.size ≤ gb252)); have n4_ := Aside0.mk ((by rw [hg]; exact (below_size (by repeat (first | (with_reducible first | exact HB.out | apply below_alloc | apply pw_below_drewN | apply below_drew1) | exact HB.out))) : w.heap.size ≤ gb252)); clear HO249; clear HB; have HO249 := n0_; have HB := n1_; have BK252 := n2_; have GW252 := n3_; have GE252 := n4_; clear n0_ n1_ n2_ n3_ n4_; clear hb hbox hg; have hcz33_0 : w32.cell? ⟨gb252, 0, none⟩ = some (.int .i64 0) := (blk_cell BK252.out 0).trans rfl; have hcz33_1 : w32.cell? ⟨gb252, 1, none⟩ = some (.int .i64 0) := (blk_cell BK252.out 1).trans rfl; have hfz33_0 := blk_frozen BK252.out 0; have hfz33_1 := blk_frozen BK252.out 1) | ((with_reducible refine gate_callee (f := 26) rfl ?_); refine goesL_ (some 29) rfl rfl Tryd.func26 (by kernel_rfl) rfl #[.slice A0 l0.length c0, .string (((⟨#[60]⟩ : ByteArray) ++ a1) ++ (⟨#[62, 32, 116, 114, 117, 101]⟩ : ByteArray))] rfl (by (try simp only [List.map_toArray, List.map_cons, List.map_nil]); first | done | rfl | (simp only [List.length_drop, List.length_take]; rfl)) ?_; (with_reducible refine (parse_Formula.calls _ _ l0 (((⟨#[60]⟩ : ByteArray) ++ a1) ++ (⟨#[62, 32, 116, 114, 117, 101]⟩ : ByteArray)) t253 t256 t257 _ ?side1 ?side2 A9.out).mono ?_); (case side1 => exact Kd.C_below HR0.out (by repeat (first | (with_reducible first | exact HB.out | apply below_alloc | apply pw_below_drewN | apply below_drew1 | refine below_set ?_ GE252.out) | exact HB.out))); (case side2 => exact HC0.out); rintro e w34 ⟨v254, rfl, ho0, hb⟩; refine ⟨_, rfl, ?_⟩; have n0_ := Aside0.mk (Kd.R_elder' (by (with_reducible repeat (first | apply Kd.R_alloc | apply Kd.R_drewN | apply Kd.R_drew)); exact (Kd.R_mono (Kd.R_far (p := ⟨gb252, 1, none⟩) (Kd.R_far (p := ⟨gb252, 0, none⟩) (Kd.R_types HO249.out BK252.out (by decide)) (fun _ hk => hk.2) (.int .i64 t250)) (fun _ hk => hk.2) (.int .i64 t251)) (fun _ h_ => h_.1))) (Kd.R_base ho0) hb); have n1_ := Aside0.mk (Kd.R_lower (Kd.R_new' ho0 (Kd.R_lt (by (with_reducible repeat (first | apply Kd.R_alloc | apply Kd.R_drewN | apply Kd.R_drew)); exact (Kd.R_mono (Kd.R_far (p := ⟨gb252, 1, none⟩) (Kd.R_far (p := ⟨gb252, 0, none⟩) (Kd.R_types HO249.out BK252.out (by decide)) (fun _ hk => hk.2) (.int .i64 t250)) (fun _ hk => hk.2) (.int .i64 t251)) (fun _ h_ => h_.1))))) (below_size (by repeat (first | (with_reducible first | exact HB.out | apply below_alloc | apply pw_below_drewN | apply below_drew1 | refine below_set ?_ GE252.out) | exact HB.out)))); have n2_ := Aside0.mk (blk_below (g := gb252) (o := .cells #[.int .i64 t250, .int .i64 t251] 26 (0, 0)) (by (with_reducible repeat (first | refine blk_drewN ?_ _ | refine blk_drew ?_ | refine blk_alloc ?_ _)); refine blk_put (cs := #[.int .i64 t250, .int .i64 0]) ?_ 1 _ rfl; (with_reducible repeat (first | refine blk_drewN ?_ _ | refine blk_drew ?_ | refine blk_alloc ?_ _)); refine blk_put (cs := #[.int .i64 0, .int .i64 0]) ?_ 0 _ rfl; (with_reducible repeat (first | refine blk_drewN ?_ _ | refine blk_drew ?_ | refine blk_alloc ?_ _)); exact BK252.out) hb); have n3_ := Aside0.mk (below_step (by repeat (first | (with_reducible first | exact HB.out | apply below_alloc | apply pw_below_drewN | apply below_drew1 | refine below_set ?_ GE252.out) | exact HB.out)) hb); clear HO249; clear BK252; clear HB; have HO249 := n0_; have HO255 := n1_; have BK252 := n2_; have HB := n3_; clear n0_ n1_ n2_ n3_; (try clear hb); (try clear hb2); (try clear hk); (try clear hi); (try clear ho0)) | ((with_reducible refine gate_dst (N := 9) rfl ?_); (try (refine gate_guard (by rfl) ?_; dsimp only)); refine box_event ?hg (N := 9) ?hd (cs := #[.int .i64 0, .int .i64 0]) (t := 26) ?hr ?_; (case hd => rfl); (case hg => rfl); (case hr => first | (go_simp; done) | (go_simp; rfl)); intro gb258 hg w35 hbox hb; have n0_ := Aside0.mk (Kd.R_below (by (with_reducible repeat (first | apply Kd.R_alloc | apply Kd.R_drewN | apply Kd.R_drew)); exact HO249.out) hb); have n1_ := Aside0.mk (Kd.R_below (by (with_reducible repeat (first | apply Kd.R_alloc | apply Kd.R_drewN | apply Kd.R_drew)); exact HO255.out) hb); have n2_ := Aside0.mk (blk_below (g := gb252) (o := .cells #[.int .i64 t250, .int .i64 t251] 26 (0, 0)) (by (with_reducible repeat (first | refine blk_drewN ?_ _ | refine blk_drew ?_ | refine blk_alloc ?_ _)); exact BK252.out) hb); have n3_ := Aside0.mk (below_step (by repeat (first | (with_reducible first | exact HB.out | apply below_alloc | apply pw_below_drewN | apply below_drew1 | refine below_set ?_ GE252.out) | exact HB.out)) hb); have n4_ := Aside0.mk (hbox); have n5_ := Aside0.mk ((by rw [hg]; exact (below_size (by repeat (first | (with_reducible first | exact HB.out | apply below_alloc | apply pw_below_drewN | apply below_drew1 | refine below_set ?_ GE252.out) | exact HB.out))) : w.heap.size ≤ gb258)); have n6_ := Aside0.mk ((by rw [hg]; exact (below_size (by repeat (first | (with_reducible first | exact HB.out | apply below_alloc | apply pw_below_drewN | apply below_drew1 | refine below_set ?_ GE252.out) | exact HB.out))) : w.heap.size ≤ gb258)); have n7_ := Aside0.mk ((by rw [hg]; exact Nat.ne_of_lt (blk_lt (g := gb252) (o := .cells #[.int .i64 t250, .int .i64 t251] 26 (0, 0)) (by (with_reducible repeat (first | refine blk_drewN ?_ _ | refine blk_drew ?_ | refine blk_alloc ?_ _)); exact BK252.out)) : gb252 ≠ gb258)); have n8_ := Aside0.mk ((by rw [hg]; exact Nat.ne_of_gt (blk_lt (g := gb252) (o := .cells #[.int .i64 t250, .int .i64 t251] 26 (0, 0)) (by (with_reducible repeat (first | refine blk_drewN ?_ _ | refine blk_drew ?_ | refine blk_alloc ?_ _)); exact BK252.out)) : gb258 ≠ gb252)); clear HO249; clear HO255; clear BK252; clear HB; have HO249 := n0_; have HO255 := n1_; have BK252 := n2_; have HB := n3_; have BK258 := n4_; have GW258 := n5_; have GE258 := n6_; have NB252_258 := n7_; have NB258_252 := n8_; clear n0_ n1_ n2_ n3_ n4_ n5_ n6_ n7_ n8_; clear hb hbox hg; have hnb36 := NB258_252.out; have hnc36 := NB252_258.out; have hcz37_0 : w35.cell? ⟨gb258, 0, none⟩ = some (.int .i64 0) := (blk_cell BK258.out 0).trans rfl; have hcz37_1 : w35.cell? ⟨gb258, 1, none⟩ = some (.int .i64 0) := (blk_cell BK258.out 1).trans rfl; have hfz37_0 := blk_frozen BK258.out 0; have hfz37_1 := blk_frozen BK258.out 1) | ((with_reducible refine gate_callee (f := 26) rfl ?_); refine goesL_ (some 37) rfl rfl Tryd.func26 (by kernel_rfl) rfl #[.slice A0 l0.length c0, .string (((⟨#[91, 40]⟩ : ByteArray) ++ a1) ++ (⟨#[41, 93, 32, 116, 114, 117, 101]⟩ : ByteArray))] rfl (by (try simp only [List.map_toArray, List.map_cons, List.map_nil]); first | done | rfl | (simp only [List.length_drop, List.length_take]; rfl)) ?_; (with_reducible refine (parse_Formula.calls _ _ l0 (((⟨#[91, 40]⟩ : ByteArray) ++ a1) ++ (⟨#[41, 93, 32, 116, 114, 117, 101]⟩ : ByteArray)) t259 t262 t263 _ ?side1 ?side2 A12.out).mono ?_); (case side1 => exact Kd.C_below HR0.out (by repeat (first | (with_reducible first | exact HB.out | apply below_alloc | apply pw_below_drewN | apply below_drew1 | refine below_set ?_ GE252.out | refine below_set ?_ GE258.out) | exact HB.out))); (case side2 => exact HC0.out); rintro e w38 ⟨v260, rfl, ho0, hb⟩; refine ⟨_, rfl, ?_⟩; have n0_ := Aside0.mk (Kd.R_elder' (by (with_reducible repeat (first | apply Kd.R_alloc | apply Kd.R_drewN | apply Kd.R_drew)); exact (Kd.R_mono (Kd.R_far (p := ⟨gb258, 1, none⟩) (Kd.R_far (p := ⟨gb258, 0, none⟩) (Kd.R_types HO249.out BK258.out (by decide)) (fun _ hk => hk.2) (.int .i64 t256)) (fun _ hk => hk.2) (.int .i64 t257)) (fun _ h_ => h_.1))) (Kd.R_base ho0) hb); have n1_ := Aside0.mk (Kd.R_elder' (by (with_reducible repeat (first | apply Kd.R_alloc | apply Kd.R_drewN | apply Kd.R_drew)); exact (Kd.R_mono (Kd.R_far (p := ⟨gb258, 1, none⟩) (Kd.R_far (p := ⟨gb258, 0, none⟩) (Kd.R_types HO255.out BK258.out (by decide)) (fun _ hk => hk.2) (.int .i64 t256)) (fun _ hk => hk.2) (.int .i64 t257)) (fun _ h_ => h_.1))) (Kd.R_base ho0) hb); have n2_ := Aside0.mk (Kd.R_lower (Kd.R_new' (Kd.R_new' ho0 (Kd.R_lt (by (with_reducible repeat (first | apply Kd.R_alloc | apply Kd.R_drewN | apply Kd.R_drew)); exact (Kd.R_mono (Kd.R_far (p := ⟨gb258, 1, none⟩) (Kd.R_far (p := ⟨gb258, 0, none⟩) (Kd.R_types HO249.out BK258.out (by decide)) (fun _ hk => hk.2) (.int .i64 t256)) (fun _ hk => hk.2) (.int .i64 t257)) (fun _ h_ => h_.1))))) (Kd.R_lt (by (with_reducible repeat (first | apply Kd.R_alloc | apply Kd.R_drewN | apply Kd.R_drew)); exact (Kd.R_mono (Kd.R_far (p := ⟨gb258, 1, none⟩) (Kd.R_far (p := ⟨gb258, 0, none⟩) (Kd.R_types HO255.out BK258.out (by decide)) (fun _ hk => hk.2) (.int .i64 t256)) (fun _ hk => hk.2) (.int .i64 t257)) (fun _ h_ => h_.1))))) (below_size (by repeat (first | (with_reducible first | exact HB.out | apply below_alloc | apply pw_below_drewN | apply below_drew1 | refine below_set ?_ GE252.out | refine below_set ?_ GE258.out) | exact HB.out)))); have n3_ := Aside0.mk (blk_below (g := gb252) (o := .cells #[.int .i64 t250, .int .i64 t251] 26 (0, 0)) (by (with_reducible repeat (first | refine blk_drewN ?_ _ | refine blk_drew ?_ | refine blk_alloc ?_ _)); refine blk_far ?_ NB252_258.out _; (with_reducible repeat (first | refine blk_drewN ?_ _ | refine blk_drew ?_ | refine blk_alloc ?_ _)); refine blk_far ?_ NB252_258.out _; (with_reducible repeat (first | refine blk_drewN ?_ _ | refine blk_drew ?_ | refine blk_alloc ?_ _)); exact BK252.out) hb); have n4_ := Aside0.mk (blk_below (g := gb258) (o := .cells #[.int .i64 t256, .int .i64 t257] 26 (0, 0)) (by (with_reducible repeat (first | refine blk_drewN ?_ _ | refine blk_drew ?_ | refine blk_alloc ?_ _)); refine blk_put (cs := #[.int .i64 t256, .int .i64 0]) ?_ 1 _ rfl; (with_reducible repeat (first | refine blk_drewN ?_ _ | refine blk_drew ?_ | refine blk_alloc ?_ _)); refine blk_put (cs := #[.int .i64 0, .int .i64 0]) ?_ 0 _ rfl; (with_reducible repeat (first | refine blk_drewN ?_ _ | refine blk_drew ?_ | refine blk_alloc ?_ _)); exact BK258.out) hb); have n5_ := Aside0.mk (below_step (by repeat (first | (with_reducible first | exact HB.out | apply below_alloc | apply pw_below_drewN | apply below_drew1 | refine below_set ?_ GE252.out | refine below_set ?_ GE258.out) | exact HB.out)) hb); clear HO249; clear HO255; clear BK252; clear BK258; clear HB; have HO249 := n0_; have HO255 := n1_; have HO261 := n2_; have BK252 := n3_; have BK258 := n4_; have HB := n5_; clear n0_ n1_ n2_ n3_ n4_ n5_; (try clear hb); (try clear hb2); (try clear hk); (try clear hi); (try clear ho0)) | ((with_reducible refine gate_dst (N := 11) rfl ?_); (try (refine gate_guard (by rfl) ?_; dsimp only)); refine box_event ?hg (N := 11) ?hd (cs := #[.int .i64 0, .int .i64 0]) (t := 26) ?hr ?_; (case hd => rfl); (case hg => rfl); (case hr => first | (go_simp; done) | (go_simp; rfl)); intro gb264 hg w39 hbox hb; have n0_ := Aside0.mk (Kd.R_below (by (with_reducible repeat (first | apply Kd.R_alloc | apply Kd.R_drewN | apply Kd.R_drew)); exact HO249.out) hb); have n1_ := Aside0.mk (Kd.R_below (by (with_reducible repeat (first | apply Kd.R_alloc | apply Kd.R_drewN | apply Kd.R_drew)); exact HO255.out) hb); have n2_ := Aside0.mk (Kd.R_below (by (with_reducible repeat (first | apply Kd.R_alloc | apply Kd.R_drewN | apply Kd.R_drew)); exact HO261.out) hb); have n3_ := Aside0.mk (blk_below (g := gb252) (o := .cells #[.int .i64 t250, .int .i64 t251] 26 (0, 0)) (by (with_reducible repeat (first | refine blk_drewN ?_ _ | refine blk_drew ?_ | refine blk_alloc ?_ _)); exact BK252.out) hb); have n4_ := Aside0.mk (blk_below (g := gb258) (o := .cells #[.int .i64 t256, .int .i64 t257] 26 (0, 0)) (by (with_reducible repeat (first | refine blk_drewN ?_ _ | refine blk_drew ?_ | refine blk_alloc ?_ _)); exact BK258.out) hb); have n5_ := Aside0.mk (below_step (by repeat (first | (with_reducible first | exact HB.out | apply below_alloc | apply pw_below_drewN | apply below_drew1 | refine below_set ?_ GE252.out | refine below_set ?_ GE258.out) | exact HB.out)) hb); have n6_ := Aside0.mk (hbox); have n7_ := Aside0.mk ((by rw [hg]; exact (below_size (by repeat (first | (with_reducible first | exact HB.out | apply below_alloc | apply pw_below_drewN | apply below_drew1 | refine below_set ?_ GE252.out | refine below_set ?_ GE258.out) | exact HB.out))) : w.heap.size ≤ gb264)); have n8_ := Aside0.mk ((by rw [hg]; exact (below_size (by repeat (first | (with_reducible first | exact HB.out | apply below_alloc | apply pw_below_drewN | apply below_drew1 | refine below_set ?_ GE252.out | refine below_set ?_ GE258.out) | exact HB.out))) : w.heap.size ≤ gb264)); have n9_ := Aside0.mk ((by rw [hg]; exact Nat.ne_of_lt (blk_lt (g := gb252) (o := .cells #[.int .i64 t250, .int .i64 t251] 26 (0, 0)) (by (with_reducible repeat (first | refine blk_drewN ?_ _ | refine blk_drew ?_ | refine blk_alloc ?_ _)); exact BK252.out)) : gb252 ≠ gb264)); have n10_ := Aside0.mk ((by rw [hg]; exact Nat.ne_of_gt (blk_lt (g := gb252) (o := .cells #[.int .i64 t250, .int .i64 t251] 26 (0, 0)) (by (with_reducible repeat (first | refine blk_drewN ?_ _ | refine blk_drew ?_ | refine blk_alloc ?_ _)); exact BK252.out)) : gb264 ≠ gb252)); have n11_ := Aside0.mk ((by rw [hg]; exact Nat.ne_of_lt (blk_lt (g := gb258) (o := .cells #[.int .i64 t256, .int .i64 t257] 26 (0, 0)) (by (with_reducible repeat (first | refine blk_drewN ?_ _ | refine blk_drew ?_ | refine blk_alloc ?_ _)); exact BK258.out)) : gb258 ≠ gb264)); have n12_ := Aside0.mk ((by rw [hg]; exact Nat.ne_of_gt (blk_lt (g := gb258) (o := .cells #[.int .i64 t256, .int .i64 t257] 26 (0, 0)) (by (with_reducible repeat (first | refine blk_drewN ?_ _ | refine blk_drew ?_ | refine blk_alloc ?_ _)); exact BK258.out)) : gb264 ≠ gb258)); clear HO249; clear HO255; clear HO261; clear BK252; clear BK258; clear HB; have HO249 := n0_; have HO255 := n1_; have HO261 := n2_; have BK252 := n3_; have BK258 := n4_; have HB := n5_; have BK264 := n6_; have GW264 := n7_; have GE264 := n8_; have NB252_264 := n9_; have NB264_252 := n10_; have NB258_264 := n11_; have NB264_258 := n12_; clear n0_ n1_ n2_ n3_ n4_ n5_ n6_ n7_ n8_ n9_ n10_ n11_ n12_; clear hb hbox hg; have hnb40 := NB264_252.out; have hnc40 := NB252_264.out; have hnb41 := NB264_258.out; have hnc41 := NB258_264.out; have hcz42_0 : w39.cell? ⟨gb264, 0, none⟩ = some (.int .i64 0) := (blk_cell BK264.out 0).trans rfl; have hcz42_1 : w39.cell? ⟨gb264, 1, none⟩ = some (.int .i64 0) := (blk_cell BK264.out 1).trans rfl; have hfz42_0 := blk_frozen BK264.out 0; have hfz42_1 := blk_frozen BK264.out 1; have hcz43_0 : w39.cell? ⟨gb252, 0, none⟩ = some (.int .i64 t250) := (blk_cell BK252.out 0).trans rfl; have hcz43_1 : w39.cell? ⟨gb252, 1, none⟩ = some (.int .i64 t251) := (blk_cell BK252.out 1).trans rfl; have hfz43_0 := blk_frozen BK252.out 0; have hfz43_1 := blk_frozen BK252.out 1))
                go_ret
                exact ⟨by first | rfl | (simp [errW_none, errW_some] <;> rfl) | (simp [*, errW_none, errW_some] <;> rfl), by repeat (first | (with_reducible first | exact HB.out | apply below_alloc | apply pw_below_drewN | apply below_drew1 | refine below_set ?_ GE252.out | refine below_set ?_ GE258.out | refine below_set ?_ GE264.out) | exact HB.out)⟩
            · rw [if_neg c13] at H
              have c13b0 : (!(t250 == 0) || (!(t251 == 0))) = false := by simpa using c13
              clear c13
              have HC44 := Aside0.mk H
              clear H
              go_enter Tryd.func8, Tryd.ntmps8
              go_upto_region 9 with (first | ((with_reducible refine gate_callee (f := 25) rfl ?_); refine goesL_ (some 13) rfl rfl Tryd.func25 (by kernel_rfl) rfl #[] rfl (by (try simp only [List.map_toArray, List.map_cons, List.map_nil]); first | done | rfl | (simp only [List.length_drop, List.length_take]; rfl)) ?_; (with_reducible refine (rejoinderlaw05_awake.calls k  t246 _ A3.out).mono ?_); rintro e w45 ⟨rfl, hb⟩; refine ⟨_, rfl, ?_⟩; have n0_ := Aside0.mk (below_step (by repeat (first | (with_reducible first | exact HB.out | apply below_alloc | apply pw_below_drewN | apply below_drew1) | exact HB.out)) hb); clear HB; have HB := n0_; clear n0_; (try clear hb); (try clear hb2); (try clear hk); (try clear hi)) | ((with_reducible refine gate_callee (f := 31) rfl ?_); refine goesL_ (some 21) rfl rfl Tryd.func31 (by kernel_rfl) rfl #[.slice A0 l0.length c0, .string a1] rfl (by (try simp only [List.map_toArray, List.map_cons, List.map_nil]); first | done | rfl | (simp only [List.length_drop, List.length_take]; rfl)) ?_; (with_reducible refine (parse_Path.calls _ _ l0 a1 t247 t250 t251 _ ?side1 ?side2 A6.out).mono ?_); (case side1 => repeat (first | exact (Kd.C_below HR0.out HB.out) | (with_reducible refine Kd.C_alloc ?_ _) | (with_reducible refine Kd.C_drewN ?_ _) | (with_reducible refine Kd.C_drew ?_))); (case side2 => exact HC0.out); rintro e w46 ⟨v248, rfl, ho0, hb⟩; refine ⟨_, rfl, ?_⟩; have n0_ := Aside0.mk (Kd.R_lower ho0 (below_size (by repeat (first | (with_reducible first | exact HB.out | apply below_alloc | apply pw_below_drewN | apply below_drew1) | exact HB.out)))); have n1_ := Aside0.mk (below_step (by repeat (first | (with_reducible first | exact HB.out | apply below_alloc | apply pw_below_drewN | apply below_drew1) | exact HB.out)) hb); clear HB; have HO249 := n0_; have HB := n1_; clear n0_ n1_; (try clear hb); (try clear hb2); (try clear hk); (try clear hi); (try clear ho0)) | ((with_reducible refine gate_dst (N := 7) rfl ?_); (try (refine gate_guard (by rfl) ?_; dsimp only)); refine box_event ?hg (N := 7) ?hd (cs := #[.int .i64 0, .int .i64 0]) (t := 26) ?hr ?_; (case hd => rfl); (case hg => rfl); (case hr => first | (go_simp; done) | (go_simp; rfl)); intro gb252 hg w47 hbox hb; have n0_ := Aside0.mk (Kd.R_below (by (with_reducible repeat (first | apply Kd.R_alloc | apply Kd.R_drewN | apply Kd.R_drew)); exact HO249.out) hb); have n1_ := Aside0.mk (below_step (by repeat (first | (with_reducible first | exact HB.out | apply below_alloc | apply pw_below_drewN | apply below_drew1) | exact HB.out)) hb); have n2_ := Aside0.mk (hbox); have n3_ := Aside0.mk ((by rw [hg]; exact (below_size (by repeat (first | (with_reducible first | exact HB.out | apply below_alloc | apply pw_below_drewN | apply below_drew1) | exact HB.out))) : w.heap.size ≤ gb252)); have n4_ := Aside0.mk ((by rw [hg]; exact (below_size (by repeat (first | (with_reducible first | exact HB.out | apply below_alloc | apply pw_below_drewN | apply below_drew1) | exact HB.out))) : w.heap.size ≤ gb252)); clear HO249; clear HB; have HO249 := n0_; have HB := n1_; have BK252 := n2_; have GW252 := n3_; have GE252 := n4_; clear n0_ n1_ n2_ n3_ n4_; clear hb hbox hg; have hcz48_0 : w47.cell? ⟨gb252, 0, none⟩ = some (.int .i64 0) := (blk_cell BK252.out 0).trans rfl; have hcz48_1 : w47.cell? ⟨gb252, 1, none⟩ = some (.int .i64 0) := (blk_cell BK252.out 1).trans rfl; have hfz48_0 := blk_frozen BK252.out 0; have hfz48_1 := blk_frozen BK252.out 1) | ((with_reducible refine gate_callee (f := 26) rfl ?_); refine goesL_ (some 29) rfl rfl Tryd.func26 (by kernel_rfl) rfl #[.slice A0 l0.length c0, .string (((⟨#[60]⟩ : ByteArray) ++ a1) ++ (⟨#[62, 32, 116, 114, 117, 101]⟩ : ByteArray))] rfl (by (try simp only [List.map_toArray, List.map_cons, List.map_nil]); first | done | rfl | (simp only [List.length_drop, List.length_take]; rfl)) ?_; (with_reducible refine (parse_Formula.calls _ _ l0 (((⟨#[60]⟩ : ByteArray) ++ a1) ++ (⟨#[62, 32, 116, 114, 117, 101]⟩ : ByteArray)) t253 t256 t257 _ ?side1 ?side2 A9.out).mono ?_); (case side1 => exact Kd.C_below HR0.out (by repeat (first | (with_reducible first | exact HB.out | apply below_alloc | apply pw_below_drewN | apply below_drew1 | refine below_set ?_ GE252.out) | exact HB.out))); (case side2 => exact HC0.out); rintro e w49 ⟨v254, rfl, ho0, hb⟩; refine ⟨_, rfl, ?_⟩; have n0_ := Aside0.mk (Kd.R_elder' (by (with_reducible repeat (first | apply Kd.R_alloc | apply Kd.R_drewN | apply Kd.R_drew)); exact (Kd.R_mono (Kd.R_far (p := ⟨gb252, 1, none⟩) (Kd.R_far (p := ⟨gb252, 0, none⟩) (Kd.R_types HO249.out BK252.out (by decide)) (fun _ hk => hk.2) (.int .i64 t250)) (fun _ hk => hk.2) (.int .i64 t251)) (fun _ h_ => h_.1))) (Kd.R_base ho0) hb); have n1_ := Aside0.mk (Kd.R_lower (Kd.R_new' ho0 (Kd.R_lt (by (with_reducible repeat (first | apply Kd.R_alloc | apply Kd.R_drewN | apply Kd.R_drew)); exact (Kd.R_mono (Kd.R_far (p := ⟨gb252, 1, none⟩) (Kd.R_far (p := ⟨gb252, 0, none⟩) (Kd.R_types HO249.out BK252.out (by decide)) (fun _ hk => hk.2) (.int .i64 t250)) (fun _ hk => hk.2) (.int .i64 t251)) (fun _ h_ => h_.1))))) (below_size (by repeat (first | (with_reducible first | exact HB.out | apply below_alloc | apply pw_below_drewN | apply below_drew1 | refine below_set ?_ GE252.out) | exact HB.out)))); have n2_ := Aside0.mk (blk_below (g := gb252) (o := .cells #[.int .i64 t250, .int .i64 t251] 26 (0, 0)) (by (with_reducible repeat (first | refine blk_drewN ?_ _ | refine blk_drew ?_ | refine blk_alloc ?_ _)); refine blk_put (cs := #[.int .i64 t250, .int .i64 0]) ?_ 1 _ rfl; (with_reducible repeat (first | refine blk_drewN ?_ _ | refine blk_drew ?_ | refine blk_alloc ?_ _)); refine blk_put (cs := #[.int .i64 0, .int .i64 0]) ?_ 0 _ rfl; (with_reducible repeat (first | refine blk_drewN ?_ _ | refine blk_drew ?_ | refine blk_alloc ?_ _)); exact BK252.out) hb); have n3_ := Aside0.mk (below_step (by repeat (first | (with_reducible first | exact HB.out | apply below_alloc | apply pw_below_drewN | apply below_drew1 | refine below_set ?_ GE252.out) | exact HB.out)) hb); clear HO249; clear BK252; clear HB; have HO249 := n0_; have HO255 := n1_; have BK252 := n2_; have HB := n3_; clear n0_ n1_ n2_ n3_; (try clear hb); (try clear hb2); (try clear hk); (try clear hi); (try clear ho0)) | ((with_reducible refine gate_dst (N := 9) rfl ?_); (try (refine gate_guard (by rfl) ?_; dsimp only)); refine box_event ?hg (N := 9) ?hd (cs := #[.int .i64 0, .int .i64 0]) (t := 26) ?hr ?_; (case hd => rfl); (case hg => rfl); (case hr => first | (go_simp; done) | (go_simp; rfl)); intro gb258 hg w50 hbox hb; have n0_ := Aside0.mk (Kd.R_below (by (with_reducible repeat (first | apply Kd.R_alloc | apply Kd.R_drewN | apply Kd.R_drew)); exact HO249.out) hb); have n1_ := Aside0.mk (Kd.R_below (by (with_reducible repeat (first | apply Kd.R_alloc | apply Kd.R_drewN | apply Kd.R_drew)); exact HO255.out) hb); have n2_ := Aside0.mk (blk_below (g := gb252) (o := .cells #[.int .i64 t250, .int .i64 t251] 26 (0, 0)) (by (with_reducible repeat (first | refine blk_drewN ?_ _ | refine blk_drew ?_ | refine blk_alloc ?_ _)); exact BK252.out) hb); have n3_ := Aside0.mk (below_step (by repeat (first | (with_reducible first | exact HB.out | apply below_alloc | apply pw_below_drewN | apply below_drew1 | refine below_set ?_ GE252.out) | exact HB.out)) hb); have n4_ := Aside0.mk (hbox); have n5_ := Aside0.mk ((by rw [hg]; exact (below_size (by repeat (first | (with_reducible first | exact HB.out | apply below_alloc | apply pw_below_drewN | apply below_drew1 | refine below_set ?_ GE252.out) | exact HB.out))) : w.heap.size ≤ gb258)); have n6_ := Aside0.mk ((by rw [hg]; exact (below_size (by repeat (first | (with_reducible first | exact HB.out | apply below_alloc | apply pw_below_drewN | apply below_drew1 | refine below_set ?_ GE252.out) | exact HB.out))) : w.heap.size ≤ gb258)); have n7_ := Aside0.mk ((by rw [hg]; exact Nat.ne_of_lt (blk_lt (g := gb252) (o := .cells #[.int .i64 t250, .int .i64 t251] 26 (0, 0)) (by (with_reducible repeat (first | refine blk_drewN ?_ _ | refine blk_drew ?_ | refine blk_alloc ?_ _)); exact BK252.out)) : gb252 ≠ gb258)); have n8_ := Aside0.mk ((by rw [hg]; exact Nat.ne_of_gt (blk_lt (g := gb252) (o := .cells #[.int .i64 t250, .int .i64 t251] 26 (0, 0)) (by (with_reducible repeat (first | refine blk_drewN ?_ _ | refine blk_drew ?_ | refine blk_alloc ?_ _)); exact BK252.out)) : gb258 ≠ gb252)); clear HO249; clear HO255; clear BK252; clear HB; have HO249 := n0_; have HO255 := n1_; have BK252 := n2_; have HB := n3_; have BK258 := n4_; have GW258 := n5_; have GE258 := n6_; have NB252_258 := n7_; have NB258_252 := n8_; clear n0_ n1_ n2_ n3_ n4_ n5_ n6_ n7_ n8_; clear hb hbox hg; have hnb51 := NB258_252.out; have hnc51 := NB252_258.out; have hcz52_0 : w50.cell? ⟨gb258, 0, none⟩ = some (.int .i64 0) := (blk_cell BK258.out 0).trans rfl; have hcz52_1 : w50.cell? ⟨gb258, 1, none⟩ = some (.int .i64 0) := (blk_cell BK258.out 1).trans rfl; have hfz52_0 := blk_frozen BK258.out 0; have hfz52_1 := blk_frozen BK258.out 1) | ((with_reducible refine gate_callee (f := 26) rfl ?_); refine goesL_ (some 37) rfl rfl Tryd.func26 (by kernel_rfl) rfl #[.slice A0 l0.length c0, .string (((⟨#[91, 40]⟩ : ByteArray) ++ a1) ++ (⟨#[41, 93, 32, 116, 114, 117, 101]⟩ : ByteArray))] rfl (by (try simp only [List.map_toArray, List.map_cons, List.map_nil]); first | done | rfl | (simp only [List.length_drop, List.length_take]; rfl)) ?_; (with_reducible refine (parse_Formula.calls _ _ l0 (((⟨#[91, 40]⟩ : ByteArray) ++ a1) ++ (⟨#[41, 93, 32, 116, 114, 117, 101]⟩ : ByteArray)) t259 t262 t263 _ ?side1 ?side2 A12.out).mono ?_); (case side1 => exact Kd.C_below HR0.out (by repeat (first | (with_reducible first | exact HB.out | apply below_alloc | apply pw_below_drewN | apply below_drew1 | refine below_set ?_ GE252.out | refine below_set ?_ GE258.out) | exact HB.out))); (case side2 => exact HC0.out); rintro e w53 ⟨v260, rfl, ho0, hb⟩; refine ⟨_, rfl, ?_⟩; have n0_ := Aside0.mk (Kd.R_elder' (by (with_reducible repeat (first | apply Kd.R_alloc | apply Kd.R_drewN | apply Kd.R_drew)); exact (Kd.R_mono (Kd.R_far (p := ⟨gb258, 1, none⟩) (Kd.R_far (p := ⟨gb258, 0, none⟩) (Kd.R_types HO249.out BK258.out (by decide)) (fun _ hk => hk.2) (.int .i64 t256)) (fun _ hk => hk.2) (.int .i64 t257)) (fun _ h_ => h_.1))) (Kd.R_base ho0) hb); have n1_ := Aside0.mk (Kd.R_elder' (by (with_reducible repeat (first | apply Kd.R_alloc | apply Kd.R_drewN | apply Kd.R_drew)); exact (Kd.R_mono (Kd.R_far (p := ⟨gb258, 1, none⟩) (Kd.R_far (p := ⟨gb258, 0, none⟩) (Kd.R_types HO255.out BK258.out (by decide)) (fun _ hk => hk.2) (.int .i64 t256)) (fun _ hk => hk.2) (.int .i64 t257)) (fun _ h_ => h_.1))) (Kd.R_base ho0) hb); have n2_ := Aside0.mk (Kd.R_lower (Kd.R_new' (Kd.R_new' ho0 (Kd.R_lt (by (with_reducible repeat (first | apply Kd.R_alloc | apply Kd.R_drewN | apply Kd.R_drew)); exact (Kd.R_mono (Kd.R_far (p := ⟨gb258, 1, none⟩) (Kd.R_far (p := ⟨gb258, 0, none⟩) (Kd.R_types HO249.out BK258.out (by decide)) (fun _ hk => hk.2) (.int .i64 t256)) (fun _ hk => hk.2) (.int .i64 t257)) (fun _ h_ => h_.1))))) (Kd.R_lt (by (with_reducible repeat (first | apply Kd.R_alloc | apply Kd.R_drewN | apply Kd.R_drew)); exact (Kd.R_mono (Kd.R_far (p := ⟨gb258, 1, none⟩) (Kd.R_far (p := ⟨gb258, 0, none⟩) (Kd.R_types HO255.out BK258.out (by decide)) (fun _ hk => hk.2) (.int .i64 t256)) (fun _ hk => hk.2) (.int .i64 t257)) (fun _ h_ => h_.1))))) (below_size (by repeat (first | (with_reducible first | exact HB.out | apply below_alloc | apply pw_below_drewN | apply below_drew1 | refine below_set ?_ GE252.out | refine below_set ?_ GE258.out) | exact HB.out)))); have n3_ := Aside0.mk (blk_below (g := gb252) (o := .cells #[.int .i64 t250, .int .i64 t251] 26 (0, 0)) (by (with_reducible repeat (first | refine blk_drewN ?_ _ | refine blk_drew ?_ | refine blk_alloc ?_ _)); refine blk_far ?_ NB252_258.out _; (with_reducible repeat (first | refine blk_drewN ?_ _ | refine blk_drew ?_ | refine blk_alloc ?_ _)); refine blk_far ?_ NB252_258.out _; (with_reducible repeat (first | refine blk_drewN ?_ _ | refine blk_drew ?_ | refine blk_alloc ?_ _)); exact BK252.out) hb); have n4_ := Aside0.mk (blk_below (g := gb258) (o := .cells #[.int .i64 t256, .int .i64 t257] 26 (0, 0)) (by (with_reducible repeat (first | refine blk_drewN ?_ _ | refine blk_drew ?_ | refine blk_alloc ?_ _)); refine blk_put (cs := #[.int .i64 t256, .int .i64 0]) ?_ 1 _ rfl; (with_reducible repeat (first | refine blk_drewN ?_ _ | refine blk_drew ?_ | refine blk_alloc ?_ _)); refine blk_put (cs := #[.int .i64 0, .int .i64 0]) ?_ 0 _ rfl; (with_reducible repeat (first | refine blk_drewN ?_ _ | refine blk_drew ?_ | refine blk_alloc ?_ _)); exact BK258.out) hb); have n5_ := Aside0.mk (below_step (by repeat (first | (with_reducible first | exact HB.out | apply below_alloc | apply pw_below_drewN | apply below_drew1 | refine below_set ?_ GE252.out | refine below_set ?_ GE258.out) | exact HB.out)) hb); clear HO249; clear HO255; clear BK252; clear BK258; clear HB; have HO249 := n0_; have HO255 := n1_; have HO261 := n2_; have BK252 := n3_; have BK258 := n4_; have HB := n5_; clear n0_ n1_ n2_ n3_ n4_ n5_; (try clear hb); (try clear hb2); (try clear hk); (try clear hi); (try clear ho0)) | ((with_reducible refine gate_dst (N := 11) rfl ?_); (try (refine gate_guard (by rfl) ?_; dsimp only)); refine box_event ?hg (N := 11) ?hd (cs := #[.int .i64 0, .int .i64 0]) (t := 26) ?hr ?_; (case hd => rfl); (case hg => rfl); (case hr => first | (go_simp; done) | (go_simp; rfl)); intro gb264 hg w54 hbox hb; have n0_ := Aside0.mk (Kd.R_below (by (with_reducible repeat (first | apply Kd.R_alloc | apply Kd.R_drewN | apply Kd.R_drew)); exact HO249.out) hb); have n1_ := Aside0.mk (Kd.R_below (by (with_reducible repeat (first | apply Kd.R_alloc | apply Kd.R_drewN | apply Kd.R_drew)); exact HO255.out) hb); have n2_ := Aside0.mk (Kd.R_below (by (with_reducible repeat (first | apply Kd.R_alloc | apply Kd.R_drewN | apply Kd.R_drew)); exact HO261.out) hb); have n3_ := Aside0.mk (blk_below (g := gb252) (o := .cells #[.int .i64 t250, .int .i64 t251] 26 (0, 0)) (by (with_reducible repeat (first | refine blk_drewN ?_ _ | refine blk_drew ?_ | refine blk_alloc ?_ _)); exact BK252.out) hb); have n4_ := Aside0.mk (blk_below (g := gb258) (o := .cells #[.int .i64 t256, .int .i64 t257] 26 (0, 0)) (by (with_reducible repeat (first | refine blk_drewN ?_ _ | refine blk_drew ?_ | refine blk_alloc ?_ _)); exact BK258.out) hb); have n5_ := Aside0.mk (below_step (by repeat (first | (with_reducible first | exact HB.out | apply below_alloc | apply pw_below_drewN | apply below_drew1 | refine below_set ?_ GE252.out | refine below_set ?_ GE258.out) | exact HB.out)) hb); have n6_ := Aside0.mk (hbox); have n7_ := Aside0.mk ((by rw [hg]; exact (below_size (by repeat (first | (with_reducible first | exact HB.out | apply below_alloc | apply pw_below_drewN | apply below_drew1 | refine below_set ?_ GE252.out | refine below_set ?_ GE258.out) | exact HB.out))) : w.heap.size ≤ gb264)); have n8_ := Aside0.mk ((by rw [hg]; exact (below_size (by repeat (first | (with_reducible first | exact HB.out | apply below_alloc | apply pw_below_drewN | apply below_drew1 | refine below_set ?_ GE252.out | refine below_set ?_ GE258.out) | exact HB.out))) : w.heap.size ≤ gb264)); have n9_ := Aside0.mk ((by rw [hg]; exact Nat.ne_of_lt (blk_lt (g := gb252) (o := .cells #[.int .i64 t250, .int .i64 t251] 26 (0, 0)) (by (with_reducible repeat (first | refine blk_drewN ?_ _ | refine blk_drew ?_ | refine blk_alloc ?_ _)); exact BK252.out)) : gb252 ≠ gb264)); have n10_ := Aside0.mk ((by rw [hg]; exact Nat.ne_of_gt (blk_lt (g := gb252) (o := .cells #[.int .i64 t250, .int .i64 t251] 26 (0, 0)) (by (with_reducible repeat (first | refine blk_drewN ?_ _ | refine blk_drew ?_ | refine blk_alloc ?_ _)); exact BK252.out)) : gb264 ≠ gb252)); have n11_ := Aside0.mk ((by rw [hg]; exact Nat.ne_of_lt (blk_lt (g := gb258) (o := .cells #[.int .i64 t256, .int .i64 t257] 26 (0, 0)) (by (with_reducible repeat (first | refine blk_drewN ?_ _ | refine blk_drew ?_ | refine blk_alloc ?_ _)); exact BK258.out)) : gb258 ≠ gb264)); have n12_ := Aside0.mk ((by rw [hg]; exact Nat.ne_of_gt (blk_lt (g := gb258) (o := .cells #[.int .i64 t256, .int .i64 t257] 26 (0, 0)) (by (with_reducible repeat (first | refine blk_drewN ?_ _ | refine blk_drew ?_ | refine blk_alloc ?_ _)); exact BK258.out)) : gb264 ≠ gb258)); clear HO249; clear HO255; clear HO261; clear BK252; clear BK258; clear HB; have HO249 := n0_; have HO255 := n1_; have HO261 := n2_; have BK252 := n3_; have BK258 := n4_; have HB := n5_; have BK264 := n6_; have GW264 := n7_; have GE264 := n8_; have NB252_264 := n9_; have NB264_252 := n10_; have NB258_264 := n11_; have NB264_258 := n12_; clear n0_ n1_ n2_ n3_ n4_ n5_ n6_ n7_ n8_ n9_ n10_ n11_ n12_; clear hb hbox hg; have hnb55 := NB264_252.out; have hnc55 := NB252_264.out; have hnb56 := NB264_258.out; have hnc56 := NB258_264.out; have hcz57_0 : w54.cell? ⟨gb264, 0, none⟩ = some (.int .i64 0) := (blk_cell BK264.out 0).trans rfl; have hcz57_1 : w54.cell? ⟨gb264, 1, none⟩ = some (.int .i64 0) := (blk_cell BK264.out 1).trans rfl; have hfz57_0 := blk_frozen BK264.out 0; have hfz57_1 := blk_frozen BK264.out 1; have hcz58_0 : w54.cell? ⟨gb252, 0, none⟩ = some (.int .i64 t250) := (blk_cell BK252.out 0).trans rfl; have hcz58_1 : w54.cell? ⟨gb252, 1, none⟩ = some (.int .i64 t251) := (blk_cell BK252.out 1).trans rfl; have hfz58_0 := blk_frozen BK252.out 0; have hfz58_1 := blk_frozen BK252.out 1))
              (try simp only [Act.put, List.setIfInBounds_toArray, List.set_cons_zero, List.set_cons_succ])
              go_cut [56] (fun v56 wc => ∃ (kq : Nat) (x56_43 : Bool), v56 = .bool x56_43 ∧ Aside0 (rejoinderlaw05_ParsePaths.j0 kq t246 t247 t253 t259 x56_43 t256 t257 t262 t263 = some r) ∧ Aside0 (kq ≤ k) ∧ Aside0 (Kd.R k55 55 wc w.heap.size (fun k_ => some k_ ≠ (v254 : Value).ownBlock ∧ some k_ ≠ (v260 : Value).ownBlock) v248 t247) ∧ Aside0 (Kd.R k55 55 wc w.heap.size (fun k_ => some k_ ≠ (v248 : Value).ownBlock ∧ some k_ ≠ (v260 : Value).ownBlock) v254 t253) ∧ Aside0 (Kd.R k55 55 wc w.heap.size (fun k_ => some k_ ≠ (v248 : Value).ownBlock ∧ some k_ ≠ (v254 : Value).ownBlock) v260 t259) ∧ Aside0 (wc.heap[gb252]? = some (.cells #[.int .i64 t250, .int .i64 t251] 26 (0, 0))) ∧ Aside0 (wc.heap[gb258]? = some (.cells #[.int .i64 t256, .int .i64 t257] 26 (0, 0))) ∧ Aside0 (wc.heap[gb264]? = some (.cells #[.int .i64 t262, .int .i64 t263] 26 (0, 0))) ∧ Aside0 (Below w.heap.size w wc))
              case first =>
                have H := HC44.out
                clear HC44
                by_cases c59 : t256 = 3
                · rw [if_pos c59] at H
                  have c59b0 : (t256 == 3) = true := beq_iff_eq.mpr c59
                  have c59b1 : (t256 != 3) = false := bne_eq_false_iff_eq.mpr c59
                  clear c59
                  (first | rw [c59b0] | (simp only [i64_w, i32_w]; rw [c59b0]) | skip)
                  have H' := Aside0.mk H
                  clear H
                  have hnb60 := NB258_252.out
                  have hnc60 := NB252_258.out
                  have hnb61 := NB258_264.out
                  have hnc61 := NB264_258.out
                  have hcz62_0 : w54.cell? ⟨gb258, 0, none⟩ = some (.int .i64 t256) := (blk_cell BK258.out 0).trans rfl
                  have hcz62_1 : w54.cell? ⟨gb258, 1, none⟩ = some (.int .i64 t257) := (blk_cell BK258.out 1).trans rfl
                  have hfz62_0 := blk_frozen BK258.out 0
                  have hfz62_1 := blk_frozen BK258.out 1
                  go_wp2
                  go_meet
                  case rel => exact ⟨_, (true), (by first | rfl | (simp; done) | (simp [*]; done)), H', ⟨by first | omega | exact Nat.le_refl _⟩, ⟨by (with_reducible repeat (first | apply Kd.R_alloc | apply Kd.R_drewN | apply Kd.R_drew)); exact Kd.R_mono (Kd.R_far (p := ⟨gb264, 1, none⟩) (Kd.R_far (p := ⟨gb264, 0, none⟩) (Kd.R_types HO249.out BK264.out (by decide)) (fun _ hk => hk.2) (.int .i64 t262)) (fun _ hk => hk.2) (.int .i64 t263)) (fun _ hk => ⟨hk.1.1.2, hk.1.2⟩)⟩, ⟨by (with_reducible repeat (first | apply Kd.R_alloc | apply Kd.R_drewN | apply Kd.R_drew)); exact Kd.R_mono (Kd.R_far (p := ⟨gb264, 1, none⟩) (Kd.R_far (p := ⟨gb264, 0, none⟩) (Kd.R_types HO255.out BK264.out (by decide)) (fun _ hk => hk.2) (.int .i64 t262)) (fun _ hk => hk.2) (.int .i64 t263)) (fun _ hk => ⟨hk.1.1.2, hk.1.2⟩)⟩, ⟨by (with_reducible repeat (first | apply Kd.R_alloc | apply Kd.R_drewN | apply Kd.R_drew)); exact Kd.R_mono (Kd.R_far (p := ⟨gb264, 1, none⟩) (Kd.R_far (p := ⟨gb264, 0, none⟩) (Kd.R_types HO261.out BK264.out (by decide)) (fun _ hk => hk.2) (.int .i64 t262)) (fun _ hk => hk.2) (.int .i64 t263)) (fun _ hk => ⟨hk.1.1.2, hk.1.2⟩)⟩, ⟨by (with_reducible repeat (first | refine blk_drewN ?_ _ | refine blk_drew ?_ | refine blk_alloc ?_ _)); refine blk_far ?_ NB252_264.out _; (with_reducible repeat (first | refine blk_drewN ?_ _ | refine blk_drew ?_ | refine blk_alloc ?_ _)); refine blk_far ?_ NB252_264.out _; (with_reducible repeat (first | refine blk_drewN ?_ _ | refine blk_drew ?_ | refine blk_alloc ?_ _)); exact BK252.out⟩, ⟨by (with_reducible repeat (first | refine blk_drewN ?_ _ | refine blk_drew ?_ | refine blk_alloc ?_ _)); refine blk_far ?_ NB258_264.out _; (with_reducible repeat (first | refine blk_drewN ?_ _ | refine blk_drew ?_ | refine blk_alloc ?_ _)); refine blk_far ?_ NB258_264.out _; (with_reducible repeat (first | refine blk_drewN ?_ _ | refine blk_drew ?_ | refine blk_alloc ?_ _)); exact BK258.out⟩, ⟨by (with_reducible repeat (first | refine blk_drewN ?_ _ | refine blk_drew ?_ | refine blk_alloc ?_ _)); refine blk_put (cs := #[.int .i64 t262, .int .i64 0]) ?_ 1 _ rfl; (with_reducible repeat (first | refine blk_drewN ?_ _ | refine blk_drew ?_ | refine blk_alloc ?_ _)); refine blk_put (cs := #[.int .i64 0, .int .i64 0]) ?_ 0 _ rfl; (with_reducible repeat (first | refine blk_drewN ?_ _ | refine blk_drew ?_ | refine blk_alloc ?_ _)); exact BK264.out⟩, ⟨by repeat (first | (with_reducible first | exact HB.out | apply below_alloc | apply pw_below_drewN | apply below_drew1 | refine below_set ?_ GE252.out | refine below_set ?_ GE258.out | refine below_set ?_ GE264.out) | exact HB.out)⟩⟩
                · rw [if_neg c59] at H
                  have c59b0 : (t256 == 3) = false := beq_eq_false_iff_ne.mpr c59
                  have c59b1 : (t256 != 3) = true := bne_iff_ne.mpr c59
                  (first | rw [c59b0] | (simp only [i64_w, i32_w]; rw [c59b0]) | skip)
                  have H' := Aside0.mk H
                  clear H
                  have hnb63 := NB258_252.out
                  have hnc63 := NB252_258.out
                  have hnb64 := NB258_264.out
                  have hnc64 := NB264_258.out
                  have hcz65_0 : w54.cell? ⟨gb258, 0, none⟩ = some (.int .i64 t256) := (blk_cell BK258.out 0).trans rfl
                  have hcz65_1 : w54.cell? ⟨gb258, 1, none⟩ = some (.int .i64 t257) := (blk_cell BK258.out 1).trans rfl
                  have hfz65_0 := blk_frozen BK258.out 0
                  have hfz65_1 := blk_frozen BK258.out 1
                  go_wp2
                  go_meet
                  case rel => exact ⟨_, ((t256 == 8)), (by first | rfl | (simp; done) | (simp [*]; done)), H', ⟨by first | omega | exact Nat.le_refl _⟩, ⟨by (with_reducible repeat (first | apply Kd.R_alloc | apply Kd.R_drewN | apply Kd.R_drew)); exact Kd.R_mono (Kd.R_far (p := ⟨gb264, 1, none⟩) (Kd.R_far (p := ⟨gb264, 0, none⟩) (Kd.R_types HO249.out BK264.out (by decide)) (fun _ hk => hk.2) (.int .i64 t262)) (fun _ hk => hk.2) (.int .i64 t263)) (fun _ hk => ⟨hk.1.1.2, hk.1.2⟩)⟩, ⟨by (with_reducible repeat (first | apply Kd.R_alloc | apply Kd.R_drewN | apply Kd.R_drew)); exact Kd.R_mono (Kd.R_far (p := ⟨gb264, 1, none⟩) (Kd.R_far (p := ⟨gb264, 0, none⟩) (Kd.R_types HO255.out BK264.out (by decide)) (fun _ hk => hk.2) (.int .i64 t262)) (fun _ hk => hk.2) (.int .i64 t263)) (fun _ hk => ⟨hk.1.1.2, hk.1.2⟩)⟩, ⟨by (with_reducible repeat (first | apply Kd.R_alloc | apply Kd.R_drewN | apply Kd.R_drew)); exact Kd.R_mono (Kd.R_far (p := ⟨gb264, 1, none⟩) (Kd.R_far (p := ⟨gb264, 0, none⟩) (Kd.R_types HO261.out BK264.out (by decide)) (fun _ hk => hk.2) (.int .i64 t262)) (fun _ hk => hk.2) (.int .i64 t263)) (fun _ hk => ⟨hk.1.1.2, hk.1.2⟩)⟩, ⟨by (with_reducible repeat (first | refine blk_drewN ?_ _ | refine blk_drew ?_ | refine blk_alloc ?_ _)); refine blk_far ?_ NB252_264.out _; (with_reducible repeat (first | refine blk_drewN ?_ _ | refine blk_drew ?_ | refine blk_alloc ?_ _)); refine blk_far ?_ NB252_264.out _; (with_reducible repeat (first | refine blk_drewN ?_ _ | refine blk_drew ?_ | refine blk_alloc ?_ _)); exact BK252.out⟩, ⟨by (with_reducible repeat (first | refine blk_drewN ?_ _ | refine blk_drew ?_ | refine blk_alloc ?_ _)); refine blk_far ?_ NB258_264.out _; (with_reducible repeat (first | refine blk_drewN ?_ _ | refine blk_drew ?_ | refine blk_alloc ?_ _)); refine blk_far ?_ NB258_264.out _; (with_reducible repeat (first | refine blk_drewN ?_ _ | refine blk_drew ?_ | refine blk_alloc ?_ _)); exact BK258.out⟩, ⟨by (with_reducible repeat (first | refine blk_drewN ?_ _ | refine blk_drew ?_ | refine blk_alloc ?_ _)); refine blk_put (cs := #[.int .i64 t262, .int .i64 0]) ?_ 1 _ rfl; (with_reducible repeat (first | refine blk_drewN ?_ _ | refine blk_drew ?_ | refine blk_alloc ?_ _)); refine blk_put (cs := #[.int .i64 0, .int .i64 0]) ?_ 0 _ rfl; (with_reducible repeat (first | refine blk_drewN ?_ _ | refine blk_drew ?_ | refine blk_alloc ?_ _)); exact BK264.out⟩, ⟨by repeat (first | (with_reducible first | exact HB.out | apply below_alloc | apply pw_below_drewN | apply below_drew1 | refine below_set ?_ GE252.out | refine below_set ?_ GE258.out | refine below_set ?_ GE264.out) | exact HB.out)⟩⟩
              case rest =>
                clear HC44
                try clear c1
                try clear c2
                try clear p2
                try clear c3
                try clear c4
                try clear c4b0
                try clear c4b1
                try clear c5
                try clear c6
                try clear c7
                try clear c7b0
                try clear c7b1
                try clear c7b2
                try clear c8
                try clear c8b0
                try clear c8b1
                try clear c8b2
                try clear c10
                try clear c10b0
                try clear c10b1
                try clear c10b2
                try clear c11
                try clear c11b0
                try clear c11b1
                try clear c11b2
                try clear c13
                try clear c13b0
                try clear c14
                try clear c21
                try clear c25
                try clear c26
                try clear c31
                try clear c36
                try clear c40
                try clear c41
                try clear c51
                try clear c55
                try clear c56
                try clear c59
                try clear c59b0
                try clear c59b1
                try clear c60
                try clear c61
                try clear c63
                try clear c64
                try clear hcz18_0
                try clear hcz18_1
                try clear hcz22_0
                try clear hcz22_1
                try clear hcz27_0
                try clear hcz27_1
                try clear hcz28_0
                try clear hcz28_1
                try clear hcz33_0
                try clear hcz33_1
                try clear hcz37_0
                try clear hcz37_1
                try clear hcz42_0
                try clear hcz42_1
                try clear hcz43_0
                try clear hcz43_1
                try clear hcz48_0
                try clear hcz48_1
                try clear hcz52_0
                try clear hcz52_1
                try clear hcz57_0
                try clear hcz57_1
                try clear hcz58_0
                try clear hcz58_1
                try clear hcz62_0
                try clear hcz62_1
                try clear hcz65_0
                try clear hcz65_1
                try clear hfz18_0
                try clear hfz18_1
                try clear hfz22_0
                try clear hfz22_1
                try clear hfz27_0
                try clear hfz27_1
                try clear hfz28_0
                try clear hfz28_1
                try clear hfz33_0
                try clear hfz33_1
                try clear hfz37_0
                try clear hfz37_1
                try clear hfz42_0
                try clear hfz42_1
                try clear hfz43_0
                try clear hfz43_1
                try clear hfz48_0
                try clear hfz48_1
                try clear hfz52_0
                try clear hfz52_1
                try clear hfz57_0
                try clear hfz57_1
                try clear hfz58_0
                try clear hfz58_1
                try clear hfz62_0
                try clear hfz62_1
                try clear hfz65_0
                try clear hfz65_1
                obtain ⟨kq, x56_43, rfl, HA, HJ43, HO_6, HO_8, HO_10, BK252, BK258, BK264, HB⟩ := hcut
                cases kq with
                | zero => exact absurd HA.out (by simp [rejoinderlaw05_ParsePaths.j0])
                | succ kj43 =>
                  have H := HA.out
                  clear HA
                  simp only [rejoinderlaw05_ParsePaths.j0] at H
                  by_cases c66 : x56_43 = true
                  · subst c66
                    have H1 : (some t246) = some r := by rw [if_pos rfl] at H; exact H
                    clear H
                    have H := H1
                    clear H1
                    obtain rfl := Option.some.inj H
                    go_wp2
                    go_ret
                    exact ⟨by first | rfl | (simp [errW_none, errW_some] <;> rfl) | (simp [*, errW_none, errW_some] <;> rfl), by repeat (first | (with_reducible first | exact HB.out | apply below_alloc | apply pw_below_drewN | apply below_drew1 | refine below_set ?_ GE252.out | refine below_set ?_ GE258.out | refine below_set ?_ GE264.out) | exact HB.out)⟩
                  · replace c66 := Bool.eq_false_iff.mpr c66
                    subst c66
                    have H1 : ((rejoinderkit_CopyToks.f t247).bind fun t265 => (if t265.length < 70368744177664 then ((some (t265 ++ [(⟨0, 0⟩ : S55)] : List (S55))).bind fun y268 => (if t246 = true then (if (t256 == 0 && (t257 == 0)) = true then (if (t262 == 0 && (t263 == 0)) = true then ((rejoinderkit_CopyToks.f y268).bind fun t271 => (if t271.length < 70368744177664 then ((rejoinderkit_SameToks.f kj43 t253 (t271 ++ [(⟨17, 0⟩ : S55)])).bind fun t277 => (if t277 = true then (if y268.length < 70368744177664 then ((rejoinderkit_SameToks.f kj43 t259 (y268 ++ [(⟨18, 0⟩ : S55)])).bind fun t281 => (some t281)) else (none)) else (some false))) else (none))) else (some false)) else (some false)) else (some false))) else (none))) = some r := by rw [if_neg (show ¬ (false = true) by decide)] at H; exact H
                    clear H
                    have H := H1
                    clear H1
                    replace H := Option.bind_eq_some_iff.mp H
                    obtain ⟨t265, A670, H⟩ := H
                    replace H : (if t265.length < 70368744177664 then ((some (t265 ++ [(⟨0, 0⟩ : S55)] : List (S55))).bind fun y268 => (if t246 = true then (if (t256 == 0 && (t257 == 0)) = true then (if (t262 == 0 && (t263 == 0)) = true then ((rejoinderkit_CopyToks.f y268).bind fun t271 => (if t271.length < 70368744177664 then ((rejoinderkit_SameToks.f kj43 t253 (t271 ++ [(⟨17, 0⟩ : S55)])).bind fun t277 => (if t277 = true then (if y268.length < 70368744177664 then ((rejoinderkit_SameToks.f kj43 t259 (y268 ++ [(⟨18, 0⟩ : S55)])).bind fun t281 => (some t281)) else (none)) else (some false))) else (none))) else (some false)) else (some false)) else (some false))) else (none)) = some r := H
                    have A67 := Aside0.mk A670
                    clear A670
                    by_cases c68 : t265.length < 70368744177664
                    · rw [if_pos c68] at H
                      have LMc68 := Aside0.mk c68
                      clear c68
                      obtain ⟨y268, hy268⟩ : ∃ y_ : List (S55), y_ = (t265 ++ [(⟨0, 0⟩ : S55)]) := ⟨_, rfl⟩
                      replace H : (if t246 = true then (if (t256 == 0 && (t257 == 0)) = true then (if (t262 == 0 && (t263 == 0)) = true then ((rejoinderkit_CopyToks.f y268).bind fun t271 => (if t271.length < 70368744177664 then ((rejoinderkit_SameToks.f kj43 t253 (t271 ++ [(⟨17, 0⟩ : S55)])).bind fun t277 => (if t277 = true then (if y268.length < 70368744177664 then ((rejoinderkit_SameToks.f kj43 t259 (y268 ++ [(⟨18, 0⟩ : S55)])).bind fun t281 => (some t281)) else (none)) else (some false))) else (none))) else (some false)) else (some false)) else (some false)) = some r := by first | (rw [hy268]; with_reducible exact H) | (have H2_ := (Option.bind_some _ _).symm.trans H; rw [hy268]; with_reducible exact H2_) | (have H2_ := (Option.bind_some _ _).symm.trans H; with_reducible exact H2_) | with_reducible exact H | (rw [hy268]; exact H) | exact H
                      have Ny268 := Aside0.mk hy268
                      clear hy268
                      by_cases c69 : t246 = true
                      · subst c69
                        have H1 : (if (t256 == 0 && (t257 == 0)) = true then (if (t262 == 0 && (t263 == 0)) = true then ((rejoinderkit_CopyToks.f y268).bind fun t271 => (if t271.length < 70368744177664 then ((rejoinderkit_SameToks.f kj43 t253 (t271 ++ [(⟨17, 0⟩ : S55)])).bind fun t277 => (if t277 = true then (if y268.length < 70368744177664 then ((rejoinderkit_SameToks.f kj43 t259 (y268 ++ [(⟨18, 0⟩ : S55)])).bind fun t281 => (some t281)) else (none)) else (some false))) else (none))) else (some false)) else (some false)) = some r := by rw [if_pos rfl] at H; exact H
                        clear H
                        have H := H1
                        clear H1
                        by_cases c70 : (t256 == 0 && (t257 == 0)) = true
                        · rw [if_pos c70] at H
                          have c70b0 : (t256 == 0 && (t257 == 0)) = true := c70
                          (try (have c70b1 : decide (t256 = 0 && (t257 == 0)) = true := by simpa using c70))
                          (try (have c70b2 : (t256 == 0 && (t257 == 0)) = true := by simpa using c70))
                          clear c70
                          by_cases c71 : (t262 == 0 && (t263 == 0)) = true
                          · rw [if_pos c71] at H
                            have c71b0 : (t262 == 0 && (t263 == 0)) = true := c71
                            (try (have c71b1 : decide (t262 = 0 && (t263 == 0)) = true := by simpa using c71))
                            (try (have c71b2 : (t262 == 0 && (t263 == 0)) = true := by simpa using c71))
                            clear c71
                            replace H := Option.bind_eq_some_iff.mp H
                            obtain ⟨t271, A720, H⟩ := H
                            replace H : (if t271.length < 70368744177664 then ((rejoinderkit_SameToks.f kj43 t253 (t271 ++ [(⟨17, 0⟩ : S55)])).bind fun t277 => (if t277 = true then (if y268.length < 70368744177664 then ((rejoinderkit_SameToks.f kj43 t259 (y268 ++ [(⟨18, 0⟩ : S55)])).bind fun t281 => (some t281)) else (none)) else (some false))) else (none)) = some r := H
                            have A72 := Aside0.mk A720
                            clear A720
                            by_cases c73 : t271.length < 70368744177664
                            · rw [if_pos c73] at H
                              have LMc73 := Aside0.mk c73
                              clear c73
                              obtain ⟨y274, hy274⟩ : ∃ y_ : List (S55), y_ = (t271 ++ [(⟨17, 0⟩ : S55)]) := ⟨_, rfl⟩
                              replace H : ((rejoinderkit_SameToks.f kj43 t253 y274).bind fun t277 => (if t277 = true then (if y268.length < 70368744177664 then ((rejoinderkit_SameToks.f kj43 t259 (y268 ++ [(⟨18, 0⟩ : S55)])).bind fun t281 => (some t281)) else (none)) else (some false))) = some r := by first | (rw [hy274]; with_reducible exact H) | (have H2_ := (Option.bind_some _ _).symm.trans H; rw [hy274]; with_reducible exact H2_) | (have H2_ := (Option.bind_some _ _).symm.trans H; with_reducible exact H2_) | with_reducible exact H | (rw [hy274]; exact H) | exact H
                              have Ny274 := Aside0.mk hy274
                              clear hy274
                              replace H := Option.bind_eq_some_iff.mp H
                              obtain ⟨t277, A740, H⟩ := H
                              replace H : (if t277 = true then (if y268.length < 70368744177664 then ((rejoinderkit_SameToks.f kj43 t259 (y268 ++ [(⟨18, 0⟩ : S55)])).bind fun t281 => (some t281)) else (none)) else (some false)) = some r := H
                              have A74 := Aside0.mk A740
                              clear A740
                              by_cases c75 : t277 = true
                              · subst c75
                                have H1 : (if y268.length < 70368744177664 then ((rejoinderkit_SameToks.f kj43 t259 (y268 ++ [(⟨18, 0⟩ : S55)])).bind fun t281 => (some t281)) else (none)) = some r := by rw [if_pos rfl] at H; exact H
                                clear H
                                have H := H1
                                clear H1
                                by_cases c76 : y268.length < 70368744177664
                                · rw [if_pos c76] at H
                                  have LMc76 := Aside0.mk c76
                                  clear c76
                                  obtain ⟨y278, hy278⟩ : ∃ y_ : List (S55), y_ = (y268 ++ [(⟨18, 0⟩ : S55)]) := ⟨_, rfl⟩
                                  replace H : ((rejoinderkit_SameToks.f kj43 t259 y278).bind fun t281 => (some t281)) = some r := by first | (rw [hy278]; with_reducible exact H) | (have H2_ := (Option.bind_some _ _).symm.trans H; rw [hy278]; with_reducible exact H2_) | (have H2_ := (Option.bind_some _ _).symm.trans H; with_reducible exact H2_) | with_reducible exact H | (rw [hy278]; exact H) | exact H
                                  have Ny278 := Aside0.mk hy278
                                  clear hy278
                                  replace H := Option.bind_eq_some_iff.mp H
                                  obtain ⟨t281, A770, H⟩ := H
                                  replace H : (some t281) = some r := H
                                  have A77 := Aside0.mk A770
                                  clear A770
                                  obtain rfl := Option.some.inj H
                                  obtain ⟨Ao78, co78, eo78⟩ := Kd.R_slice HO_6.out
                                  subst eo78
                                  go_wp2_with (first | ((with_reducible refine gate_callee (f := 29) rfl ?_); refine goesL_ (some 59) rfl rfl Tryd.func29 (by kernel_rfl) rfl #[.slice Ao78 t247.length co78] rfl (by (try simp only [List.map_toArray, List.map_cons, List.map_nil]); first | done | rfl | (simp only [List.length_drop, List.length_take]; rfl)) ?_; (with_reducible refine (rejoinderkit_CopyToks.calls _ _ t247 t265 _ ?side1 ?side2 A67.out).mono ?_); (case side1 => repeat (first | exact (Kd.R_reads' HO_6.out).2.2 | (with_reducible refine Kd.C_alloc ?_ _) | (with_reducible refine Kd.C_drewN ?_ _) | (with_reducible refine Kd.C_drew ?_))); (case side2 => exact (Kd.R_reads' HO_6.out).2.1); rintro e w79 ⟨v266, rfl, ho0, hb⟩; refine ⟨_, rfl, ?_⟩; have n0_ := Aside0.mk (Kd.R_elder' (by (with_reducible repeat (first | apply Kd.R_alloc | apply Kd.R_drewN | apply Kd.R_drew)); exact HO_6.out) (Kd.R_base ho0) hb); have n1_ := Aside0.mk (Kd.R_elder' (by (with_reducible repeat (first | apply Kd.R_alloc | apply Kd.R_drewN | apply Kd.R_drew)); exact HO_8.out) (Kd.R_base ho0) hb); have n2_ := Aside0.mk (Kd.R_elder' (by (with_reducible repeat (first | apply Kd.R_alloc | apply Kd.R_drewN | apply Kd.R_drew)); exact HO_10.out) (Kd.R_base ho0) hb); have n3_ := Aside0.mk (Kd.R_lower (Kd.R_new' (Kd.R_new' (Kd.R_new' ho0 (Kd.R_lt (by (with_reducible repeat (first | apply Kd.R_alloc | apply Kd.R_drewN | apply Kd.R_drew)); exact HO_6.out))) (Kd.R_lt (by (with_reducible repeat (first | apply Kd.R_alloc | apply Kd.R_drewN | apply Kd.R_drew)); exact HO_8.out))) (Kd.R_lt (by (with_reducible repeat (first | apply Kd.R_alloc | apply Kd.R_drewN | apply Kd.R_drew)); exact HO_10.out))) (below_size (by repeat (first | (with_reducible first | exact HB.out | apply below_alloc | apply pw_below_drewN | apply below_drew1 | refine below_set ?_ GE252.out | refine below_set ?_ GE258.out | refine below_set ?_ GE264.out) | exact HB.out)))); have n4_ := Aside0.mk (blk_below (g := gb252) (o := .cells #[.int .i64 t250, .int .i64 t251] 26 (0, 0)) (by (with_reducible repeat (first | refine blk_drewN ?_ _ | refine blk_drew ?_ | refine blk_alloc ?_ _)); exact BK252.out) hb); have n5_ := Aside0.mk (blk_below (g := gb258) (o := .cells #[.int .i64 t256, .int .i64 t257] 26 (0, 0)) (by (with_reducible repeat (first | refine blk_drewN ?_ _ | refine blk_drew ?_ | refine blk_alloc ?_ _)); exact BK258.out) hb); have n6_ := Aside0.mk (blk_below (g := gb264) (o := .cells #[.int .i64 t262, .int .i64 t263] 26 (0, 0)) (by (with_reducible repeat (first | refine blk_drewN ?_ _ | refine blk_drew ?_ | refine blk_alloc ?_ _)); exact BK264.out) hb); have n7_ := Aside0.mk (below_step (by repeat (first | (with_reducible first | exact HB.out | apply below_alloc | apply pw_below_drewN | apply below_drew1 | refine below_set ?_ GE252.out | refine below_set ?_ GE258.out | refine below_set ?_ GE264.out) | exact HB.out)) hb); clear HO_6; clear HO_8; clear HO_10; clear BK252; clear BK258; clear BK264; clear HB; have HO_6 := n0_; have HO_8 := n1_; have HO_10 := n2_; have HO267 := n3_; have BK252 := n4_; have BK258 := n5_; have BK264 := n6_; have HB := n7_; clear n0_ n1_ n2_ n3_ n4_ n5_ n6_ n7_; (try clear hb); (try clear hb2); (try clear hk); (try clear hi); (try clear ho0)) | ((with_reducible refine gate_builtin (b := .append) (xs := #[.tmp 59, .tmp 61]) rfl ?_); (try (refine gate_guard (by rfl) ?_; dsimp only)); at_builtin; refine Kd.R_append k55 (w0 := w) w.heap.size rfl (.tmp 59) (.tmp 61) 46 55 (.agg #[(.int .u8 0), (.int .u8 0)]) 2 rfl Tryd.underlying46 info55 rfl (by decide) (by omega) v266 t265 (⟨0, 0⟩ : S55) [.int .u8 0, .int .u8 0] (fun k_ => some k_ ≠ (.slice Ao78 t247.length co78 : Value).ownBlock ∧ some k_ ≠ (v254 : Value).ownBlock ∧ some k_ ≠ (v260 : Value).ownBlock) (fun _ => False) rfl rfl ?aP (fun _ hk => hk.elim) ?aF ?aO ?aB ?aS ?aL ?_; (case aP => exact k55_mkM _ _ _ (⟨0, 0⟩ : S55)); (case aB => exact (by repeat (first | (with_reducible first | exact HB.out | apply below_alloc | apply pw_below_drewN | apply below_drew1 | refine below_set ?_ GE252.out | refine below_set ?_ GE258.out | refine below_set ?_ GE264.out) | exact HB.out))); (case aF => exact (fun k_ hk => ⟨Kd.fresh' (Kd.R_lt (by (with_reducible repeat (first | apply Kd.R_alloc | apply Kd.R_drewN | apply Kd.R_drew)); exact HO_6.out)) k_ hk, Kd.fresh' (Kd.R_lt (by (with_reducible repeat (first | apply Kd.R_alloc | apply Kd.R_drewN | apply Kd.R_drew)); exact HO_8.out)) k_ hk, Kd.fresh' (Kd.R_lt (by (with_reducible repeat (first | apply Kd.R_alloc | apply Kd.R_drewN | apply Kd.R_drew)); exact HO_10.out)) k_ hk⟩)); (case aO => exact (by (with_reducible repeat (first | apply Kd.R_alloc | apply Kd.R_drewN | apply Kd.R_drew)); exact Kd.R_mono HO267.out (fun _ hk => ⟨hk.1.1.2, ⟨hk.1.2, hk.2⟩⟩))); (case aS => exact (below_size (by repeat (first | (with_reducible first | exact HB.out | apply below_alloc | apply pw_below_drewN | apply below_drew1 | refine below_set ?_ GE252.out | refine below_set ?_ GE258.out | refine below_set ?_ GE264.out) | exact HB.out)))); (case aL => have := LMc68.out; omega); intro v269 w80 ho hb hg hat; rw [← Ny268.out] at ho; have n0_ := Aside0.mk (Kd.R_after (ok := (fun k_ => some k_ ≠ (v254 : Value).ownBlock ∧ some k_ ≠ (v260 : Value).ownBlock)) (by (with_reducible repeat (first | apply Kd.R_alloc | apply Kd.R_drewN | apply Kd.R_drew)); exact HO_6.out) hg hat); have n1_ := Aside0.mk (Kd.R_after (ok := (fun k_ => some k_ ≠ (.slice Ao78 t247.length co78 : Value).ownBlock ∧ some k_ ≠ (v260 : Value).ownBlock)) (by (with_reducible repeat (first | apply Kd.R_alloc | apply Kd.R_drewN | apply Kd.R_drew)); exact HO_8.out) hg hat); have n2_ := Aside0.mk (Kd.R_after (ok := (fun k_ => some k_ ≠ (.slice Ao78 t247.length co78 : Value).ownBlock ∧ some k_ ≠ (v254 : Value).ownBlock)) (by (with_reducible repeat (first | apply Kd.R_alloc | apply Kd.R_drewN | apply Kd.R_drew)); exact HO_10.out) hg hat); have n3_ := Aside0.mk (blk_grown (g := gb252) (o := .cells #[.int .i64 t250, .int .i64 t251] 26 (0, 0)) (by (with_reducible repeat (first | refine blk_drewN ?_ _ | refine blk_drew ?_ | refine blk_alloc ?_ _)); exact BK252.out) hg (Kd.R_ne HO267.out BK252.out (by decide))); have n4_ := Aside0.mk (blk_grown (g := gb258) (o := .cells #[.int .i64 t256, .int .i64 t257] 26 (0, 0)) (by (with_reducible repeat (first | refine blk_drewN ?_ _ | refine blk_drew ?_ | refine blk_alloc ?_ _)); exact BK258.out) hg (Kd.R_ne HO267.out BK258.out (by decide))); have n5_ := Aside0.mk (blk_grown (g := gb264) (o := .cells #[.int .i64 t262, .int .i64 t263] 26 (0, 0)) (by (with_reducible repeat (first | refine blk_drewN ?_ _ | refine blk_drew ?_ | refine blk_alloc ?_ _)); exact BK264.out) hg (Kd.R_ne HO267.out BK264.out (by decide))); have n6_ := Aside0.mk (hb); have n7_ := Aside0.mk (ho); clear HO_6; clear HO_8; clear HO_10; clear BK252; clear BK258; clear BK264; clear HB; clear HO267; have HO_6 := n0_; have HO_8 := n1_; have HO_10 := n2_; have BK252 := n3_; have BK258 := n4_; have BK264 := n5_; have HB := n6_; have HO270 := n7_; clear n0_ n1_ n2_ n3_ n4_ n5_ n6_ n7_; clear ho hb hg hat; have hnb81 := NB258_252.out; have hnc81 := NB252_258.out; have hnb82 := NB258_264.out; have hnc82 := NB264_258.out; have hcz83_0 : w80.cell? ⟨gb258, 0, none⟩ = some (.int .i64 t256) := (blk_cell BK258.out 0).trans rfl; have hcz83_1 : w80.cell? ⟨gb258, 1, none⟩ = some (.int .i64 t257) := (blk_cell BK258.out 1).trans rfl; have hfz83_0 := blk_frozen BK258.out 0; have hfz83_1 := blk_frozen BK258.out 1; have hnb84 := NB264_252.out; have hnc84 := NB252_264.out; have hcz85_0 : w80.cell? ⟨gb264, 0, none⟩ = some (.int .i64 t262) := (blk_cell BK264.out 0).trans rfl; have hcz85_1 : w80.cell? ⟨gb264, 1, none⟩ = some (.int .i64 t263) := (blk_cell BK264.out 1).trans rfl; have hfz85_0 := blk_frozen BK264.out 0; have hfz85_1 := blk_frozen BK264.out 1; obtain ⟨Ao86, co86, eo86⟩ := Kd.R_slice HO270.out; subst eo86) | (go_at_call 29; (with_reducible refine (rejoinderkit_CopyToks.calls _ _ y268 t271 _ ?side1 ?side2 A72.out).mono ?_); (case side1 => repeat (first | exact (Kd.R_reads' HO270.out).2.2 | (with_reducible refine Kd.C_alloc ?_ _) | (with_reducible refine Kd.C_drewN ?_ _) | (with_reducible refine Kd.C_drew ?_))); (case side2 => exact (Kd.R_reads' HO270.out).2.1); rintro e w87 ⟨v272, rfl, ho0, hb⟩; have n0_ := Aside0.mk (Kd.R_elder' (by (with_reducible repeat (first | apply Kd.R_alloc | apply Kd.R_drewN | apply Kd.R_drew)); exact HO_6.out) (Kd.R_base ho0) hb); have n1_ := Aside0.mk (Kd.R_elder' (by (with_reducible repeat (first | apply Kd.R_alloc | apply Kd.R_drewN | apply Kd.R_drew)); exact HO_8.out) (Kd.R_base ho0) hb); have n2_ := Aside0.mk (Kd.R_elder' (by (with_reducible repeat (first | apply Kd.R_alloc | apply Kd.R_drewN | apply Kd.R_drew)); exact HO_10.out) (Kd.R_base ho0) hb); have n3_ := Aside0.mk (Kd.R_elder' (by (with_reducible repeat (first | apply Kd.R_alloc | apply Kd.R_drewN | apply Kd.R_drew)); exact HO270.out) (Kd.R_base ho0) hb); have n4_ := Aside0.mk (Kd.R_lower (Kd.R_new' (Kd.R_new' (Kd.R_new' (Kd.R_new' ho0 (Kd.R_lt (by (with_reducible repeat (first | apply Kd.R_alloc | apply Kd.R_drewN | apply Kd.R_drew)); exact HO_6.out))) (Kd.R_lt (by (with_reducible repeat (first | apply Kd.R_alloc | apply Kd.R_drewN | apply Kd.R_drew)); exact HO_8.out))) (Kd.R_lt (by (with_reducible repeat (first | apply Kd.R_alloc | apply Kd.R_drewN | apply Kd.R_drew)); exact HO_10.out))) (Kd.R_lt (by (with_reducible repeat (first | apply Kd.R_alloc | apply Kd.R_drewN | apply Kd.R_drew)); exact HO270.out))) (below_size (by repeat (first | (with_reducible first | exact HB.out | apply below_alloc | apply pw_below_drewN | apply below_drew1 | refine below_set ?_ GE252.out | refine below_set ?_ GE258.out | refine below_set ?_ GE264.out) | exact HB.out)))); have n5_ := Aside0.mk (blk_below (g := gb252) (o := .cells #[.int .i64 t250, .int .i64 t251] 26 (0, 0)) (by (with_reducible repeat (first | refine blk_drewN ?_ _ | refine blk_drew ?_ | refine blk_alloc ?_ _)); exact BK252.out) hb); have n6_ := Aside0.mk (blk_below (g := gb258) (o := .cells #[.int .i64 t256, .int .i64 t257] 26 (0, 0)) (by (with_reducible repeat (first | refine blk_drewN ?_ _ | refine blk_drew ?_ | refine blk_alloc ?_ _)); exact BK258.out) hb); have n7_ := Aside0.mk (blk_below (g := gb264) (o := .cells #[.int .i64 t262, .int .i64 t263] 26 (0, 0)) (by (with_reducible repeat (first | refine blk_drewN ?_ _ | refine blk_drew ?_ | refine blk_alloc ?_ _)); exact BK264.out) hb); have n8_ := Aside0.mk (below_step (by repeat (first | (with_reducible first | exact HB.out | apply below_alloc | apply pw_below_drewN | apply below_drew1 | refine below_set ?_ GE252.out | refine below_set ?_ GE258.out | refine below_set ?_ GE264.out) | exact HB.out)) hb); clear HO_6; clear HO_8; clear HO_10; clear HO270; clear BK252; clear BK258; clear BK264; clear HB; have HO_6 := n0_; have HO_8 := n1_; have HO_10 := n2_; have HO270 := n3_; have HO273 := n4_; have BK252 := n5_; have BK258 := n6_; have BK264 := n7_; have HB := n8_; clear n0_ n1_ n2_ n3_ n4_ n5_ n6_ n7_ n8_; (try clear hb); (try clear hb2); (try clear hk); (try clear hi); (try clear ho0)) | ((with_reducible refine gate_builtin (b := .append) (xs := #[.tmp 77, .tmp 79]) rfl ?_); (try (refine gate_guard (by rfl) ?_; dsimp only)); at_builtin; refine Kd.R_append k55 (w0 := w) w.heap.size rfl (.tmp 77) (.tmp 79) 46 55 (.agg #[(.int .u8 0), (.int .u8 0)]) 2 rfl Tryd.underlying46 info55 rfl (by decide) (by omega) v272 t271 (⟨17, 0⟩ : S55) [.int .u8 17, .int .u8 0] (fun k_ => some k_ ≠ (.slice Ao78 t247.length co78 : Value).ownBlock ∧ some k_ ≠ (v254 : Value).ownBlock ∧ some k_ ≠ (v260 : Value).ownBlock ∧ some k_ ≠ (.slice Ao86 y268.length co86 : Value).ownBlock) (fun _ => False) rfl rfl ?aP (fun _ hk => hk.elim) ?aF ?aO ?aB ?aS ?aL ?_; (case aP => exact k55_mkM _ _ _ (⟨17, 0⟩ : S55)); (case aB => exact (by repeat (first | (with_reducible first | exact HB.out | apply below_alloc | apply pw_below_drewN | apply below_drew1 | refine below_set ?_ GE252.out | refine below_set ?_ GE258.out | refine below_set ?_ GE264.out) | exact HB.out))); (case aF => exact (fun k_ hk => ⟨Kd.fresh' (Kd.R_lt (by (with_reducible repeat (first | apply Kd.R_alloc | apply Kd.R_drewN | apply Kd.R_drew)); exact HO_6.out)) k_ hk, Kd.fresh' (Kd.R_lt (by (with_reducible repeat (first | apply Kd.R_alloc | apply Kd.R_drewN | apply Kd.R_drew)); exact HO_8.out)) k_ hk, Kd.fresh' (Kd.R_lt (by (with_reducible repeat (first | apply Kd.R_alloc | apply Kd.R_drewN | apply Kd.R_drew)); exact HO_10.out)) k_ hk, Kd.fresh' (Kd.R_lt (by (with_reducible repeat (first | apply Kd.R_alloc | apply Kd.R_drewN | apply Kd.R_drew)); exact HO270.out)) k_ hk⟩)); (case aO => exact (by (with_reducible repeat (first | apply Kd.R_alloc | apply Kd.R_drewN | apply Kd.R_drew)); exact Kd.R_mono HO273.out (fun _ hk => ⟨hk.1.1.1.2, ⟨hk.1.1.2, ⟨hk.1.2, hk.2⟩⟩⟩))); (case aS => exact (below_size (by repeat (first | (with_reducible first | exact HB.out | apply below_alloc | apply pw_below_drewN | apply below_drew1 | refine below_set ?_ GE252.out | refine below_set ?_ GE258.out | refine below_set ?_ GE264.out) | exact HB.out)))); (case aL => have := LMc73.out; omega); intro v275 w88 ho hb hg hat; rw [← Ny274.out] at ho; have n0_ := Aside0.mk (Kd.R_after (ok := (fun k_ => some k_ ≠ (v254 : Value).ownBlock ∧ some k_ ≠ (v260 : Value).ownBlock ∧ some k_ ≠ (.slice Ao86 y268.length co86 : Value).ownBlock)) (by (with_reducible repeat (first | apply Kd.R_alloc | apply Kd.R_drewN | apply Kd.R_drew)); exact Kd.R_mono HO_6.out (fun _ hk => ⟨⟨hk.1.1.1, ⟨hk.1.1.2, hk.1.2⟩⟩, hk.2⟩)) hg hat); have n1_ := Aside0.mk (Kd.R_after (ok := (fun k_ => some k_ ≠ (.slice Ao78 t247.length co78 : Value).ownBlock ∧ some k_ ≠ (v260 : Value).ownBlock ∧ some k_ ≠ (.slice Ao86 y268.length co86 : Value).ownBlock)) (by (with_reducible repeat (first | apply Kd.R_alloc | apply Kd.R_drewN | apply Kd.R_drew)); exact Kd.R_mono HO_8.out (fun _ hk => ⟨⟨hk.1.1.1, ⟨hk.1.1.2, hk.1.2⟩⟩, hk.2⟩)) hg hat); have n2_ := Aside0.mk (Kd.R_after (ok := (fun k_ => some k_ ≠ (.slice Ao78 t247.length co78 : Value).ownBlock ∧ some k_ ≠ (v254 : Value).ownBlock ∧ some k_ ≠ (.slice Ao86 y268.length co86 : Value).ownBlock)) (by (with_reducible repeat (first | apply Kd.R_alloc | apply Kd.R_drewN | apply Kd.R_drew)); exact Kd.R_mono HO_10.out (fun _ hk => ⟨⟨hk.1.1.1, ⟨hk.1.1.2, hk.1.2⟩⟩, hk.2⟩)) hg hat); have n3_ := Aside0.mk (blk_grown (g := gb252) (o := .cells #[.int .i64 t250, .int .i64 t251] 26 (0, 0)) (by (with_reducible repeat (first | refine blk_drewN ?_ _ | refine blk_drew ?_ | refine blk_alloc ?_ _)); exact BK252.out) hg (Kd.R_ne HO273.out BK252.out (by decide))); have n4_ := Aside0.mk (blk_grown (g := gb258) (o := .cells #[.int .i64 t256, .int .i64 t257] 26 (0, 0)) (by (with_reducible repeat (first | refine blk_drewN ?_ _ | refine blk_drew ?_ | refine blk_alloc ?_ _)); exact BK258.out) hg (Kd.R_ne HO273.out BK258.out (by decide))); have n5_ := Aside0.mk (blk_grown (g := gb264) (o := .cells #[.int .i64 t262, .int .i64 t263] 26 (0, 0)) (by (with_reducible repeat (first | refine blk_drewN ?_ _ | refine blk_drew ?_ | refine blk_alloc ?_ _)); exact BK264.out) hg (Kd.R_ne HO273.out BK264.out (by decide))); have n6_ := Aside0.mk (Kd.R_after (ok := (fun k_ => some k_ ≠ (.slice Ao78 t247.length co78 : Value).ownBlock ∧ some k_ ≠ (v254 : Value).ownBlock ∧ some k_ ≠ (v260 : Value).ownBlock)) (by (with_reducible repeat (first | apply Kd.R_alloc | apply Kd.R_drewN | apply Kd.R_drew)); exact HO270.out) hg hat); have n7_ := Aside0.mk (hb); have n8_ := Aside0.mk (ho); clear HO_6; clear HO_8; clear HO_10; clear BK252; clear BK258; clear BK264; clear HO270; clear HB; clear HO273; have HO_6 := n0_; have HO_8 := n1_; have HO_10 := n2_; have BK252 := n3_; have BK258 := n4_; have BK264 := n5_; have HO270 := n6_; have HB := n7_; have HO276 := n8_; clear n0_ n1_ n2_ n3_ n4_ n5_ n6_ n7_ n8_; clear ho hb hg hat; obtain ⟨Ao89, co89, eo89⟩ := Kd.R_slice HO_8.out; subst eo89; obtain ⟨Ao90, co90, eo90⟩ := Kd.R_slice HO276.out; subst eo90) | (go_at_call 27; (with_reducible refine (rejoinderkit_SameToks.calls kj43 _ _ t253 _ _ y274 true _ ?side1 ?side2 ?side3 ?side4 A74.out).mono ?_); (case side1 => repeat (first | exact (Kd.R_reads' HO_8.out).2.2 | (with_reducible refine Kd.C_alloc ?_ _) | (with_reducible refine Kd.C_drewN ?_ _) | (with_reducible refine Kd.C_drew ?_))); (case side2 => exact (Kd.R_reads' HO_8.out).2.1); (case side3 => repeat (first | exact (Kd.R_reads' HO276.out).2.2 | (with_reducible refine Kd.C_alloc ?_ _) | (with_reducible refine Kd.C_drewN ?_ _) | (with_reducible refine Kd.C_drew ?_))); (case side4 => exact (Kd.R_reads' HO276.out).2.1); rintro e w' ⟨rfl, ⟨nd, rfl⟩⟩) | ((with_reducible refine gate_builtin (b := .append) (xs := #[.tmp 85, .tmp 87]) rfl ?_); (try (refine gate_guard (by rfl) ?_; dsimp only)); at_builtin; refine Kd.R_append k55 (w0 := w) w.heap.size rfl (.tmp 85) (.tmp 87) 46 55 (.agg #[(.int .u8 0), (.int .u8 0)]) 2 rfl Tryd.underlying46 info55 rfl (by decide) (by omega) (.slice Ao86 y268.length co86) y268 (⟨18, 0⟩ : S55) [.int .u8 18, .int .u8 0] (fun k_ => some k_ ≠ (.slice Ao78 t247.length co78 : Value).ownBlock ∧ some k_ ≠ (.slice Ao89 t253.length co89 : Value).ownBlock ∧ some k_ ≠ (v260 : Value).ownBlock ∧ some k_ ≠ (.slice Ao90 y274.length co90 : Value).ownBlock) (fun _ => False) rfl rfl ?aP (fun _ hk => hk.elim) ?aF ?aO ?aB ?aS ?aL ?_; (case aP => exact k55_mkM _ _ _ (⟨18, 0⟩ : S55)); (case aB => exact (by repeat (first | (with_reducible first | exact HB.out | apply below_alloc | apply pw_below_drewN | apply below_drew1 | refine below_set ?_ GE252.out | refine below_set ?_ GE258.out | refine below_set ?_ GE264.out) | exact HB.out))); (case aF => exact (fun k_ hk => ⟨Kd.fresh' (Kd.R_lt (by (with_reducible repeat (first | apply Kd.R_alloc | apply Kd.R_drewN | apply Kd.R_drew)); exact HO_6.out)) k_ hk, Kd.fresh' (Kd.R_lt (by (with_reducible repeat (first | apply Kd.R_alloc | apply Kd.R_drewN | apply Kd.R_drew)); exact HO_8.out)) k_ hk, Kd.fresh' (Kd.R_lt (by (with_reducible repeat (first | apply Kd.R_alloc | apply Kd.R_drewN | apply Kd.R_drew)); exact HO_10.out)) k_ hk, Kd.fresh' (Kd.R_lt (by (with_reducible repeat (first | apply Kd.R_alloc | apply Kd.R_drewN | apply Kd.R_drew)); exact HO276.out)) k_ hk⟩)); (case aO => exact (by (with_reducible repeat (first | apply Kd.R_alloc | apply Kd.R_drewN | apply Kd.R_drew)); exact Kd.R_mono HO270.out (fun _ hk => ⟨hk.1.1, ⟨hk.1.2.1, ⟨hk.1.2.2, hk.2⟩⟩⟩))); (case aS => exact (below_size (by repeat (first | (with_reducible first | exact HB.out | apply below_alloc | apply pw_below_drewN | apply below_drew1 | refine below_set ?_ GE252.out | refine below_set ?_ GE258.out | refine below_set ?_ GE264.out) | exact HB.out)))); (case aL => have := LMc76.out; omega); intro v279 w91 ho hb hg hat; rw [← Ny278.out] at ho; have n0_ := Aside0.mk (Kd.R_after (ok := (fun k_ => some k_ ≠ (.slice Ao89 t253.length co89 : Value).ownBlock ∧ some k_ ≠ (v260 : Value).ownBlock ∧ some k_ ≠ (.slice Ao90 y274.length co90 : Value).ownBlock)) (by (with_reducible repeat (first | apply Kd.R_alloc | apply Kd.R_drewN | apply Kd.R_drew)); exact Kd.R_mono HO_6.out (fun _ hk => ⟨⟨hk.1.1, ⟨hk.1.2.1, hk.2⟩⟩, hk.1.2.2⟩)) hg hat); have n1_ := Aside0.mk (Kd.R_after (ok := (fun k_ => some k_ ≠ (.slice Ao78 t247.length co78 : Value).ownBlock ∧ some k_ ≠ (v260 : Value).ownBlock ∧ some k_ ≠ (.slice Ao90 y274.length co90 : Value).ownBlock)) (by (with_reducible repeat (first | apply Kd.R_alloc | apply Kd.R_drewN | apply Kd.R_drew)); exact Kd.R_mono HO_8.out (fun _ hk => ⟨⟨hk.1.1, ⟨hk.1.2.1, hk.2⟩⟩, hk.1.2.2⟩)) hg hat); have n2_ := Aside0.mk (Kd.R_after (ok := (fun k_ => some k_ ≠ (.slice Ao78 t247.length co78 : Value).ownBlock ∧ some k_ ≠ (.slice Ao89 t253.length co89 : Value).ownBlock ∧ some k_ ≠ (.slice Ao90 y274.length co90 : Value).ownBlock)) (by (with_reducible repeat (first | apply Kd.R_alloc | apply Kd.R_drewN | apply Kd.R_drew)); exact Kd.R_mono HO_10.out (fun _ hk => ⟨⟨hk.1.1, ⟨hk.1.2.1, hk.2⟩⟩, hk.1.2.2⟩)) hg hat); have n3_ := Aside0.mk (blk_grown (g := gb252) (o := .cells #[.int .i64 t250, .int .i64 t251] 26 (0, 0)) (by (with_reducible repeat (first | refine blk_drewN ?_ _ | refine blk_drew ?_ | refine blk_alloc ?_ _)); exact BK252.out) hg (Kd.R_ne HO270.out BK252.out (by decide))); have n4_ := Aside0.mk (blk_grown (g := gb258) (o := .cells #[.int .i64 t256, .int .i64 t257] 26 (0, 0)) (by (with_reducible repeat (first | refine blk_drewN ?_ _ | refine blk_drew ?_ | refine blk_alloc ?_ _)); exact BK258.out) hg (Kd.R_ne HO270.out BK258.out (by decide))); have n5_ := Aside0.mk (blk_grown (g := gb264) (o := .cells #[.int .i64 t262, .int .i64 t263] 26 (0, 0)) (by (with_reducible repeat (first | refine blk_drewN ?_ _ | refine blk_drew ?_ | refine blk_alloc ?_ _)); exact BK264.out) hg (Kd.R_ne HO270.out BK264.out (by decide))); have n6_ := Aside0.mk (Kd.R_after (ok := (fun k_ => some k_ ≠ (.slice Ao78 t247.length co78 : Value).ownBlock ∧ some k_ ≠ (.slice Ao89 t253.length co89 : Value).ownBlock ∧ some k_ ≠ (v260 : Value).ownBlock)) (by (with_reducible repeat (first | apply Kd.R_alloc | apply Kd.R_drewN | apply Kd.R_drew)); exact Kd.R_mono HO276.out (fun _ hk => ⟨⟨hk.1, ⟨hk.2.1, hk.2.2.1⟩⟩, hk.2.2.2⟩)) hg hat); have n7_ := Aside0.mk (hb); have n8_ := Aside0.mk (ho); clear HO_6; clear HO_8; clear HO_10; clear BK252; clear BK258; clear BK264; clear HO276; clear HB; clear HO270; have HO_6 := n0_; have HO_8 := n1_; have HO_10 := n2_; have BK252 := n3_; have BK258 := n4_; have BK264 := n5_; have HO276 := n6_; have HB := n7_; have HO280 := n8_; clear n0_ n1_ n2_ n3_ n4_ n5_ n6_ n7_ n8_; clear ho hb hg hat; obtain ⟨Ao92, co92, eo92⟩ := Kd.R_slice HO_10.out; subst eo92; obtain ⟨Ao93, co93, eo93⟩ := Kd.R_slice HO280.out; subst eo93) | (go_at_call 27; (with_reducible refine (rejoinderkit_SameToks.calls kj43 _ _ t259 _ _ y278 t281 _ ?side1 ?side2 ?side3 ?side4 A77.out).mono ?_); (case side1 => repeat (first | exact (Kd.R_reads' HO_10.out).2.2 | (with_reducible refine Kd.C_alloc ?_ _) | (with_reducible refine Kd.C_drewN ?_ _) | (with_reducible refine Kd.C_drew ?_))); (case side2 => exact (Kd.R_reads' HO_10.out).2.1); (case side3 => repeat (first | exact (Kd.R_reads' HO280.out).2.2 | (with_reducible refine Kd.C_alloc ?_ _) | (with_reducible refine Kd.C_drewN ?_ _) | (with_reducible refine Kd.C_drew ?_))); (case side4 => exact (Kd.R_reads' HO280.out).2.1); rintro e w' ⟨rfl, ⟨nd, rfl⟩⟩))
                                  go_ret
                                  exact ⟨by first | rfl | (simp [errW_none, errW_some] <;> rfl) | (simp [*, errW_none, errW_some] <;> rfl), by repeat (first | (with_reducible first | exact HB.out | apply below_alloc | apply pw_below_drewN | apply below_drew1 | refine below_set ?_ GE252.out | refine below_set ?_ GE258.out | refine below_set ?_ GE264.out) | exact HB.out)⟩
                                · rw [if_neg c76] at H
                                  exact absurd H (by simp)
                              · replace c75 := Bool.eq_false_iff.mpr c75
                                subst c75
                                have H1 : (some false) = some r := by rw [if_neg (show ¬ (false = true) by decide)] at H; exact H
                                clear H
                                have H := H1
                                clear H1
                                obtain rfl := Option.some.inj H
                                obtain ⟨Ao94, co94, eo94⟩ := Kd.R_slice HO_6.out
                                subst eo94
                                go_wp2_with (first | ((with_reducible refine gate_callee (f := 29) rfl ?_); refine goesL_ (some 59) rfl rfl Tryd.func29 (by kernel_rfl) rfl #[.slice Ao94 t247.length co94] rfl (by (try simp only [List.map_toArray, List.map_cons, List.map_nil]); first | done | rfl | (simp only [List.length_drop, List.length_take]; rfl)) ?_; (with_reducible refine (rejoinderkit_CopyToks.calls _ _ t247 t265 _ ?side1 ?side2 A67.out).mono ?_); (case side1 => repeat (first | exact (Kd.R_reads' HO_6.out).2.2 | (with_reducible refine Kd.C_alloc ?_ _) | (with_reducible refine Kd.C_drewN ?_ _) | (with_reducible refine Kd.C_drew ?_))); (case side2 => exact (Kd.R_reads' HO_6.out).2.1); rintro e w95 ⟨v266, rfl, ho0, hb⟩; refine ⟨_, rfl, ?_⟩; have n0_ := Aside0.mk (Kd.R_elder' (by (with_reducible repeat (first | apply Kd.R_alloc | apply Kd.R_drewN | apply Kd.R_drew)); exact HO_6.out) (Kd.R_base ho0) hb); have n1_ := Aside0.mk (Kd.R_elder' (by (with_reducible repeat (first | apply Kd.R_alloc | apply Kd.R_drewN | apply Kd.R_drew)); exact HO_8.out) (Kd.R_base ho0) hb); have n2_ := Aside0.mk (Kd.R_elder' (by (with_reducible repeat (first | apply Kd.R_alloc | apply Kd.R_drewN | apply Kd.R_drew)); exact HO_10.out) (Kd.R_base ho0) hb); have n3_ := Aside0.mk (Kd.R_lower (Kd.R_new' (Kd.R_new' (Kd.R_new' ho0 (Kd.R_lt (by (with_reducible repeat (first | apply Kd.R_alloc | apply Kd.R_drewN | apply Kd.R_drew)); exact HO_6.out))) (Kd.R_lt (by (with_reducible repeat (first | apply Kd.R_alloc | apply Kd.R_drewN | apply Kd.R_drew)); exact HO_8.out))) (Kd.R_lt (by (with_reducible repeat (first | apply Kd.R_alloc | apply Kd.R_drewN | apply Kd.R_drew)); exact HO_10.out))) (below_size (by repeat (first | (with_reducible first | exact HB.out | apply below_alloc | apply pw_below_drewN | apply below_drew1 | refine below_set ?_ GE252.out | refine below_set ?_ GE258.out | refine below_set ?_ GE264.out) | exact HB.out)))); have n4_ := Aside0.mk (blk_below (g := gb252) (o := .cells #[.int .i64 t250, .int .i64 t251] 26 (0, 0)) (by (with_reducible repeat (first | refine blk_drewN ?_ _ | refine blk_drew ?_ | refine blk_alloc ?_ _)); exact BK252.out) hb); have n5_ := Aside0.mk (blk_below (g := gb258) (o := .cells #[.int .i64 t256, .int .i64 t257] 26 (0, 0)) (by (with_reducible repeat (first | refine blk_drewN ?_ _ | refine blk_drew ?_ | refine blk_alloc ?_ _)); exact BK258.out) hb); have n6_ := Aside0.mk (blk_below (g := gb264) (o := .cells #[.int .i64 t262, .int .i64 t263] 26 (0, 0)) (by (with_reducible repeat (first | refine blk_drewN ?_ _ | refine blk_drew ?_ | refine blk_alloc ?_ _)); exact BK264.out) hb); have n7_ := Aside0.mk (below_step (by repeat (first | (with_reducible first | exact HB.out | apply below_alloc | apply pw_below_drewN | apply below_drew1 | refine below_set ?_ GE252.out | refine below_set ?_ GE258.out | refine below_set ?_ GE264.out) | exact HB.out)) hb); clear HO_6; clear HO_8; clear HO_10; clear BK252; clear BK258; clear BK264; clear HB; have HO_6 := n0_; have HO_8 := n1_; have HO_10 := n2_; have HO267 := n3_; have BK252 := n4_; have BK258 := n5_; have BK264 := n6_; have HB := n7_; clear n0_ n1_ n2_ n3_ n4_ n5_ n6_ n7_; (try clear hb); (try clear hb2); (try clear hk); (try clear hi); (try clear ho0)) | ((with_reducible refine gate_builtin (b := .append) (xs := #[.tmp 59, .tmp 61]) rfl ?_); (try (refine gate_guard (by rfl) ?_; dsimp only)); at_builtin; refine Kd.R_append k55 (w0 := w) w.heap.size rfl (.tmp 59) (.tmp 61) 46 55 (.agg #[(.int .u8 0), (.int .u8 0)]) 2 rfl Tryd.underlying46 info55 rfl (by decide) (by omega) v266 t265 (⟨0, 0⟩ : S55) [.int .u8 0, .int .u8 0] (fun k_ => some k_ ≠ (.slice Ao94 t247.length co94 : Value).ownBlock ∧ some k_ ≠ (v254 : Value).ownBlock ∧ some k_ ≠ (v260 : Value).ownBlock) (fun _ => False) rfl rfl ?aP (fun _ hk => hk.elim) ?aF ?aO ?aB ?aS ?aL ?_; (case aP => exact k55_mkM _ _ _ (⟨0, 0⟩ : S55)); (case aB => exact (by repeat (first | (with_reducible first | exact HB.out | apply below_alloc | apply pw_below_drewN | apply below_drew1 | refine below_set ?_ GE252.out | refine below_set ?_ GE258.out | refine below_set ?_ GE264.out) | exact HB.out))); (case aF => exact (fun k_ hk => ⟨Kd.fresh' (Kd.R_lt (by (with_reducible repeat (first | apply Kd.R_alloc | apply Kd.R_drewN | apply Kd.R_drew)); exact HO_6.out)) k_ hk, Kd.fresh' (Kd.R_lt (by (with_reducible repeat (first | apply Kd.R_alloc | apply Kd.R_drewN | apply Kd.R_drew)); exact HO_8.out)) k_ hk, Kd.fresh' (Kd.R_lt (by (with_reducible repeat (first | apply Kd.R_alloc | apply Kd.R_drewN | apply Kd.R_drew)); exact HO_10.out)) k_ hk⟩)); (case aO => exact (by (with_reducible repeat (first | apply Kd.R_alloc | apply Kd.R_drewN | apply Kd.R_drew)); exact Kd.R_mono HO267.out (fun _ hk => ⟨hk.1.1.2, ⟨hk.1.2, hk.2⟩⟩))); (case aS => exact (below_size (by repeat (first | (with_reducible first | exact HB.out | apply below_alloc | apply pw_below_drewN | apply below_drew1 | refine below_set ?_ GE252.out | refine below_set ?_ GE258.out | refine below_set ?_ GE264.out) | exact HB.out)))); (case aL => have := LMc68.out; omega); intro v269 w96 ho hb hg hat; rw [← Ny268.out] at ho; have n0_ := Aside0.mk (Kd.R_after (ok := (fun k_ => some k_ ≠ (v254 : Value).ownBlock ∧ some k_ ≠ (v260 : Value).ownBlock)) (by (with_reducible repeat (first | apply Kd.R_alloc | apply Kd.R_drewN | apply Kd.R_drew)); exact HO_6.out) hg hat); have n1_ := Aside0.mk (Kd.R_after (ok := (fun k_ => some k_ ≠ (.slice Ao94 t247.length co94 : Value).ownBlock ∧ some k_ ≠ (v260 : Value).ownBlock)) (by (with_reducible repeat (first | apply Kd.R_alloc | apply Kd.R_drewN | apply Kd.R_drew)); exact HO_8.out) hg hat); have n2_ := Aside0.mk (Kd.R_after (ok := (fun k_ => some k_ ≠ (.slice Ao94 t247.length co94 : Value).ownBlock ∧ some k_ ≠ (v254 : Value).ownBlock)) (by (with_reducible repeat (first | apply Kd.R_alloc | apply Kd.R_drewN | apply Kd.R_drew)); exact HO_10.out) hg hat); have n3_ := Aside0.mk (blk_grown (g := gb252) (o := .cells #[.int .i64 t250, .int .i64 t251] 26 (0, 0)) (by (with_reducible repeat (first | refine blk_drewN ?_ _ | refine blk_drew ?_ | refine blk_alloc ?_ _)); exact BK252.out) hg (Kd.R_ne HO267.out BK252.out (by decide))); have n4_ := Aside0.mk (blk_grown (g := gb258) (o := .cells #[.int .i64 t256, .int .i64 t257] 26 (0, 0)) (by (with_reducible repeat (first | refine blk_drewN ?_ _ | refine blk_drew ?_ | refine blk_alloc ?_ _)); exact BK258.out) hg (Kd.R_ne HO267.out BK258.out (by decide))); have n5_ := Aside0.mk (blk_grown (g := gb264) (o := .cells #[.int .i64 t262, .int .i64 t263] 26 (0, 0)) (by (with_reducible repeat (first | refine blk_drewN ?_ _ | refine blk_drew ?_ | refine blk_alloc ?_ _)); exact BK264.out) hg (Kd.R_ne HO267.out BK264.out (by decide))); have n6_ := Aside0.mk (hb); have n7_ := Aside0.mk (ho); clear HO_6; clear HO_8; clear HO_10; clear BK252; clear BK258; clear BK264; clear HB; clear HO267; have HO_6 := n0_; have HO_8 := n1_; have HO_10 := n2_; have BK252 := n3_; have BK258 := n4_; have BK264 := n5_; have HB := n6_; have HO270 := n7_; clear n0_ n1_ n2_ n3_ n4_ n5_ n6_ n7_; clear ho hb hg hat; have hnb97 := NB258_252.out; have hnc97 := NB252_258.out; have hnb98 := NB258_264.out; have hnc98 := NB264_258.out; have hcz99_0 : w96.cell? ⟨gb258, 0, none⟩ = some (.int .i64 t256) := (blk_cell BK258.out 0).trans rfl; have hcz99_1 : w96.cell? ⟨gb258, 1, none⟩ = some (.int .i64 t257) := (blk_cell BK258.out 1).trans rfl; have hfz99_0 := blk_frozen BK258.out 0; have hfz99_1 := blk_frozen BK258.out 1; have hnb100 := NB264_252.out; have hnc100 := NB252_264.out; have hcz101_0 : w96.cell? ⟨gb264, 0, none⟩ = some (.int .i64 t262) := (blk_cell BK264.out 0).trans rfl; have hcz101_1 : w96.cell? ⟨gb264, 1, none⟩ = some (.int .i64 t263) := (blk_cell BK264.out 1).trans rfl; have hfz101_0 := blk_frozen BK264.out 0; have hfz101_1 := blk_frozen BK264.out 1; obtain ⟨Ao102, co102, eo102⟩ := Kd.R_slice HO270.out; subst eo102) | (go_at_call 29; (with_reducible refine (rejoinderkit_CopyToks.calls _ _ y268 t271 _ ?side1 ?side2 A72.out).mono ?_); (case side1 => repeat (first | exact (Kd.R_reads' HO270.out).2.2 | (with_reducible refine Kd.C_alloc ?_ _) | (with_reducible refine Kd.C_drewN ?_ _) | (with_reducible refine Kd.C_drew ?_))); (case side2 => exact (Kd.R_reads' HO270.out).2.1); rintro e w103 ⟨v272, rfl, ho0, hb⟩; have n0_ := Aside0.mk (Kd.R_elder' (by (with_reducible repeat (first | apply Kd.R_alloc | apply Kd.R_drewN | apply Kd.R_drew)); exact HO_6.out) (Kd.R_base ho0) hb); have n1_ := Aside0.mk (Kd.R_elder' (by (with_reducible repeat (first | apply Kd.R_alloc | apply Kd.R_drewN | apply Kd.R_drew)); exact HO_8.out) (Kd.R_base ho0) hb); have n2_ := Aside0.mk (Kd.R_elder' (by (with_reducible repeat (first | apply Kd.R_alloc | apply Kd.R_drewN | apply Kd.R_drew)); exact HO_10.out) (Kd.R_base ho0) hb); have n3_ := Aside0.mk (Kd.R_elder' (by (with_reducible repeat (first | apply Kd.R_alloc | apply Kd.R_drewN | apply Kd.R_drew)); exact HO270.out) (Kd.R_base ho0) hb); have n4_ := Aside0.mk (Kd.R_lower (Kd.R_new' (Kd.R_new' (Kd.R_new' (Kd.R_new' ho0 (Kd.R_lt (by (with_reducible repeat (first | apply Kd.R_alloc | apply Kd.R_drewN | apply Kd.R_drew)); exact HO_6.out))) (Kd.R_lt (by (with_reducible repeat (first | apply Kd.R_alloc | apply Kd.R_drewN | apply Kd.R_drew)); exact HO_8.out))) (Kd.R_lt (by (with_reducible repeat (first | apply Kd.R_alloc | apply Kd.R_drewN | apply Kd.R_drew)); exact HO_10.out))) (Kd.R_lt (by (with_reducible repeat (first | apply Kd.R_alloc | apply Kd.R_drewN | apply Kd.R_drew)); exact HO270.out))) (below_size (by repeat (first | (with_reducible first | exact HB.out | apply below_alloc | apply pw_below_drewN | apply below_drew1 | refine below_set ?_ GE252.out | refine below_set ?_ GE258.out | refine below_set ?_ GE264.out) | exact HB.out)))); have n5_ := Aside0.mk (blk_below (g := gb252) (o := .cells #[.int .i64 t250, .int .i64 t251] 26 (0, 0)) (by (with_reducible repeat (first | refine blk_drewN ?_ _ | refine blk_drew ?_ | refine blk_alloc ?_ _)); exact BK252.out) hb); have n6_ := Aside0.mk (blk_below (g := gb258) (o := .cells #[.int .i64 t256, .int .i64 t257] 26 (0, 0)) (by (with_reducible repeat (first | refine blk_drewN ?_ _ | refine blk_drew ?_ | refine blk_alloc ?_ _)); exact BK258.out) hb); have n7_ := Aside0.mk (blk_below (g := gb264) (o := .cells #[.int .i64 t262, .int .i64 t263] 26 (0, 0)) (by (with_reducible repeat (first | refine blk_drewN ?_ _ | refine blk_drew ?_ | refine blk_alloc ?_ _)); exact BK264.out) hb); have n8_ := Aside0.mk (below_step (by repeat (first | (with_reducible first | exact HB.out | apply below_alloc | apply pw_below_drewN | apply below_drew1 | refine below_set ?_ GE252.out | refine below_set ?_ GE258.out | refine below_set ?_ GE264.out) | exact HB.out)) hb); clear HO_6; clear HO_8; clear HO_10; clear HO270; clear BK252; clear BK258; clear BK264; clear HB; have HO_6 := n0_; have HO_8 := n1_; have HO_10 := n2_; have HO270 := n3_; have HO273 := n4_; have BK252 := n5_; have BK258 := n6_; have BK264 := n7_; have HB := n8_; clear n0_ n1_ n2_ n3_ n4_ n5_ n6_ n7_ n8_; (try clear hb); (try clear hb2); (try clear hk); (try clear hi); (try clear ho0)) | ((with_reducible refine gate_builtin (b := .append) (xs := #[.tmp 77, .tmp 79]) rfl ?_); (try (refine gate_guard (by rfl) ?_; dsimp only)); at_builtin; refine Kd.R_append k55 (w0 := w) w.heap.size rfl (.tmp 77) (.tmp 79) 46 55 (.agg #[(.int .u8 0), (.int .u8 0)]) 2 rfl Tryd.underlying46 info55 rfl (by decide) (by omega) v272 t271 (⟨17, 0⟩ : S55) [.int .u8 17, .int .u8 0] (fun k_ => some k_ ≠ (.slice Ao94 t247.length co94 : Value).ownBlock ∧ some k_ ≠ (v254 : Value).ownBlock ∧ some k_ ≠ (v260 : Value).ownBlock ∧ some k_ ≠ (.slice Ao102 y268.length co102 : Value).ownBlock) (fun _ => False) rfl rfl ?aP (fun _ hk => hk.elim) ?aF ?aO ?aB ?aS ?aL ?_; (case aP => exact k55_mkM _ _ _ (⟨17, 0⟩ : S55)); (case aB => exact (by repeat (first | (with_reducible first | exact HB.out | apply below_alloc | apply pw_below_drewN | apply below_drew1 | refine below_set ?_ GE252.out | refine below_set ?_ GE258.out | refine below_set ?_ GE264.out) | exact HB.out))); (case aF => exact (fun k_ hk => ⟨Kd.fresh' (Kd.R_lt (by (with_reducible repeat (first | apply Kd.R_alloc | apply Kd.R_drewN | apply Kd.R_drew)); exact HO_6.out)) k_ hk, Kd.fresh' (Kd.R_lt (by (with_reducible repeat (first | apply Kd.R_alloc | apply Kd.R_drewN | apply Kd.R_drew)); exact HO_8.out)) k_ hk, Kd.fresh' (Kd.R_lt (by (with_reducible repeat (first | apply Kd.R_alloc | apply Kd.R_drewN | apply Kd.R_drew)); exact HO_10.out)) k_ hk, Kd.fresh' (Kd.R_lt (by (with_reducible repeat (first | apply Kd.R_alloc | apply Kd.R_drewN | apply Kd.R_drew)); exact HO270.out)) k_ hk⟩)); (case aO => exact (by (with_reducible repeat (first | apply Kd.R_alloc | apply Kd.R_drewN | apply Kd.R_drew)); exact Kd.R_mono HO273.out (fun _ hk => ⟨hk.1.1.1.2, ⟨hk.1.1.2, ⟨hk.1.2, hk.2⟩⟩⟩))); (case aS => exact (below_size (by repeat (first | (with_reducible first | exact HB.out | apply below_alloc | apply pw_below_drewN | apply below_drew1 | refine below_set ?_ GE252.out | refine below_set ?_ GE258.out | refine below_set ?_ GE264.out) | exact HB.out)))); (case aL => have := LMc73.out; omega); intro v275 w104 ho hb hg hat; rw [← Ny274.out] at ho; have n0_ := Aside0.mk (Kd.R_after (ok := (fun k_ => some k_ ≠ (v254 : Value).ownBlock ∧ some k_ ≠ (v260 : Value).ownBlock ∧ some k_ ≠ (.slice Ao102 y268.length co102 : Value).ownBlock)) (by (with_reducible repeat (first | apply Kd.R_alloc | apply Kd.R_drewN | apply Kd.R_drew)); exact Kd.R_mono HO_6.out (fun _ hk => ⟨⟨hk.1.1.1, ⟨hk.1.1.2, hk.1.2⟩⟩, hk.2⟩)) hg hat); have n1_ := Aside0.mk (Kd.R_after (ok := (fun k_ => some k_ ≠ (.slice Ao94 t247.length co94 : Value).ownBlock ∧ some k_ ≠ (v260 : Value).ownBlock ∧ some k_ ≠ (.slice Ao102 y268.length co102 : Value).ownBlock)) (by (with_reducible repeat (first | apply Kd.R_alloc | apply Kd.R_drewN | apply Kd.R_drew)); exact Kd.R_mono HO_8.out (fun _ hk => ⟨⟨hk.1.1.1, ⟨hk.1.1.2, hk.1.2⟩⟩, hk.2⟩)) hg hat); have n2_ := Aside0.mk (Kd.R_after (ok := (fun k_ => some k_ ≠ (.slice Ao94 t247.length co94 : Value).ownBlock ∧ some k_ ≠ (v254 : Value).ownBlock ∧ some k_ ≠ (.slice Ao102 y268.length co102 : Value).ownBlock)) (by (with_reducible repeat (first | apply Kd.R_alloc | apply Kd.R_drewN | apply Kd.R_drew)); exact Kd.R_mono HO_10.out (fun _ hk => ⟨⟨hk.1.1.1, ⟨hk.1.1.2, hk.1.2⟩⟩, hk.2⟩)) hg hat); have n3_ := Aside0.mk (blk_grown (g := gb252) (o := .cells #[.int .i64 t250, .int .i64 t251] 26 (0, 0)) (by (with_reducible repeat (first | refine blk_drewN ?_ _ | refine blk_drew ?_ | refine blk_alloc ?_ _)); exact BK252.out) hg (Kd.R_ne HO273.out BK252.out (by decide))); have n4_ := Aside0.mk (blk_grown (g := gb258) (o := .cells #[.int .i64 t256, .int .i64 t257] 26 (0, 0)) (by (with_reducible repeat (first | refine blk_drewN ?_ _ | refine blk_drew ?_ | refine blk_alloc ?_ _)); exact BK258.out) hg (Kd.R_ne HO273.out BK258.out (by decide))); have n5_ := Aside0.mk (blk_grown (g := gb264) (o := .cells #[.int .i64 t262, .int .i64 t263] 26 (0, 0)) (by (with_reducible repeat (first | refine blk_drewN ?_ _ | refine blk_drew ?_ | refine blk_alloc ?_ _)); exact BK264.out) hg (Kd.R_ne HO273.out BK264.out (by decide))); have n6_ := Aside0.mk (Kd.R_after (ok := (fun k_ => some k_ ≠ (.slice Ao94 t247.length co94 : Value).ownBlock ∧ some k_ ≠ (v254 : Value).ownBlock ∧ some k_ ≠ (v260 : Value).ownBlock)) (by (with_reducible repeat (first | apply Kd.R_alloc | apply Kd.R_drewN | apply Kd.R_drew)); exact HO270.out) hg hat); have n7_ := Aside0.mk (hb); have n8_ := Aside0.mk (ho); clear HO_6; clear HO_8; clear HO_10; clear BK252; clear BK258; clear BK264; clear HO270; clear HB; clear HO273; have HO_6 := n0_; have HO_8 := n1_; have HO_10 := n2_; have BK252 := n3_; have BK258 := n4_; have BK264 := n5_; have HO270 := n6_; have HB := n7_; have HO276 := n8_; clear n0_ n1_ n2_ n3_ n4_ n5_ n6_ n7_ n8_; clear ho hb hg hat; obtain ⟨Ao105, co105, eo105⟩ := Kd.R_slice HO_8.out; subst eo105; obtain ⟨Ao106, co106, eo106⟩ := Kd.R_slice HO276.out; subst eo106) | (go_at_call 27; (with_reducible refine (rejoinderkit_SameToks.calls kj43 _ _ t253 _ _ y274 false _ ?side1 ?side2 ?side3 ?side4 A74.out).mono ?_); (case side1 => repeat (first | exact (Kd.R_reads' HO_8.out).2.2 | (with_reducible refine Kd.C_alloc ?_ _) | (with_reducible refine Kd.C_drewN ?_ _) | (with_reducible refine Kd.C_drew ?_))); (case side2 => exact (Kd.R_reads' HO_8.out).2.1); (case side3 => repeat (first | exact (Kd.R_reads' HO276.out).2.2 | (with_reducible refine Kd.C_alloc ?_ _) | (with_reducible refine Kd.C_drewN ?_ _) | (with_reducible refine Kd.C_drew ?_))); (case side4 => exact (Kd.R_reads' HO276.out).2.1); rintro e w' ⟨rfl, ⟨nd, rfl⟩⟩))
                                go_ret
                                exact ⟨by first | rfl | (simp [errW_none, errW_some] <;> rfl) | (simp [*, errW_none, errW_some] <;> rfl), by repeat (first | (with_reducible first | exact HB.out | apply below_alloc | apply pw_below_drewN | apply below_drew1 | refine below_set ?_ GE252.out | refine below_set ?_ GE258.out | refine below_set ?_ GE264.out) | exact HB.out)⟩
                            · rw [if_neg c73] at H
                              exact absurd H (by simp)
                          · rw [if_neg c71] at H
                            have c71b0 : (t262 == 0 && (t263 == 0)) = false := by simpa using c71
                            (try (have c71b1 : decide (t262 = 0 && (t263 == 0)) = false := by simpa using c71))
                            (try (have c71b2 : (t262 == 0 && (t263 == 0)) = false := by simpa using c71))
                            (try (have c71b3 : ¬ (t262 = 0 && (t263 == 0)) := by simpa using c71))
                            clear c71
                            obtain rfl := Option.some.inj H
                            obtain ⟨Ao107, co107, eo107⟩ := Kd.R_slice HO_6.out
                            subst eo107
                            go_wp2_with (first | ((with_reducible refine gate_callee (f := 29) rfl ?_); refine goesL_ (some 59) rfl rfl Tryd.func29 (by kernel_rfl) rfl #[.slice Ao107 t247.length co107] rfl (by (try simp only [List.map_toArray, List.map_cons, List.map_nil]); first | done | rfl | (simp only [List.length_drop, List.length_take]; rfl)) ?_; (with_reducible refine (rejoinderkit_CopyToks.calls _ _ t247 t265 _ ?side1 ?side2 A67.out).mono ?_); (case side1 => repeat (first | exact (Kd.R_reads' HO_6.out).2.2 | (with_reducible refine Kd.C_alloc ?_ _) | (with_reducible refine Kd.C_drewN ?_ _) | (with_reducible refine Kd.C_drew ?_))); (case side2 => exact (Kd.R_reads' HO_6.out).2.1); rintro e w108 ⟨v266, rfl, ho0, hb⟩; refine ⟨_, rfl, ?_⟩; have n0_ := Aside0.mk (Kd.R_elder' (by (with_reducible repeat (first | apply Kd.R_alloc | apply Kd.R_drewN | apply Kd.R_drew)); exact HO_6.out) (Kd.R_base ho0) hb); have n1_ := Aside0.mk (Kd.R_elder' (by (with_reducible repeat (first | apply Kd.R_alloc | apply Kd.R_drewN | apply Kd.R_drew)); exact HO_8.out) (Kd.R_base ho0) hb); have n2_ := Aside0.mk (Kd.R_elder' (by (with_reducible repeat (first | apply Kd.R_alloc | apply Kd.R_drewN | apply Kd.R_drew)); exact HO_10.out) (Kd.R_base ho0) hb); have n3_ := Aside0.mk (Kd.R_lower (Kd.R_new' (Kd.R_new' (Kd.R_new' ho0 (Kd.R_lt (by (with_reducible repeat (first | apply Kd.R_alloc | apply Kd.R_drewN | apply Kd.R_drew)); exact HO_6.out))) (Kd.R_lt (by (with_reducible repeat (first | apply Kd.R_alloc | apply Kd.R_drewN | apply Kd.R_drew)); exact HO_8.out))) (Kd.R_lt (by (with_reducible repeat (first | apply Kd.R_alloc | apply Kd.R_drewN | apply Kd.R_drew)); exact HO_10.out))) (below_size (by repeat (first | (with_reducible first | exact HB.out | apply below_alloc | apply pw_below_drewN | apply below_drew1 | refine below_set ?_ GE252.out | refine below_set ?_ GE258.out | refine below_set ?_ GE264.out) | exact HB.out)))); have n4_ := Aside0.mk (blk_below (g := gb252) (o := .cells #[.int .i64 t250, .int .i64 t251] 26 (0, 0)) (by (with_reducible repeat (first | refine blk_drewN ?_ _ | refine blk_drew ?_ | refine blk_alloc ?_ _)); exact BK252.out) hb); have n5_ := Aside0.mk (blk_below (g := gb258) (o := .cells #[.int .i64 t256, .int .i64 t257] 26 (0, 0)) (by (with_reducible repeat (first | refine blk_drewN ?_ _ | refine blk_drew ?_ | refine blk_alloc ?_ _)); exact BK258.out) hb); have n6_ := Aside0.mk (blk_below (g := gb264) (o := .cells #[.int .i64 t262, .int .i64 t263] 26 (0, 0)) (by (with_reducible repeat (first | refine blk_drewN ?_ _ | refine blk_drew ?_ | refine blk_alloc ?_ _)); exact BK264.out) hb); have n7_ := Aside0.mk (below_step (by repeat (first | (with_reducible first | exact HB.out | apply below_alloc | apply pw_below_drewN | apply below_drew1 | refine below_set ?_ GE252.out | refine below_set ?_ GE258.out | refine below_set ?_ GE264.out) | exact HB.out)) hb); clear HO_6; clear HO_8; clear HO_10; clear BK252; clear BK258; clear BK264; clear HB; have HO_6 := n0_; have HO_8 := n1_; have HO_10 := n2_; have HO267 := n3_; have BK252 := n4_; have BK258 := n5_; have BK264 := n6_; have HB := n7_; clear n0_ n1_ n2_ n3_ n4_ n5_ n6_ n7_; (try clear hb); (try clear hb2); (try clear hk); (try clear hi); (try clear ho0)) | ((with_reducible refine gate_builtin (b := .append) (xs := #[.tmp 59, .tmp 61]) rfl ?_); (try (refine gate_guard (by rfl) ?_; dsimp only)); at_builtin; refine Kd.R_append k55 (w0 := w) w.heap.size rfl (.tmp 59) (.tmp 61) 46 55 (.agg #[(.int .u8 0), (.int .u8 0)]) 2 rfl Tryd.underlying46 info55 rfl (by decide) (by omega) v266 t265 (⟨0, 0⟩ : S55) [.int .u8 0, .int .u8 0] (fun k_ => some k_ ≠ (.slice Ao107 t247.length co107 : Value).ownBlock ∧ some k_ ≠ (v254 : Value).ownBlock ∧ some k_ ≠ (v260 : Value).ownBlock) (fun _ => False) rfl rfl ?aP (fun _ hk => hk.elim) ?aF ?aO ?aB ?aS ?aL ?_; (case aP => exact k55_mkM _ _ _ (⟨0, 0⟩ : S55)); (case aB => exact (by repeat (first | (with_reducible first | exact HB.out | apply below_alloc | apply pw_below_drewN | apply below_drew1 | refine below_set ?_ GE252.out | refine below_set ?_ GE258.out | refine below_set ?_ GE264.out) | exact HB.out))); (case aF => exact (fun k_ hk => ⟨Kd.fresh' (Kd.R_lt (by (with_reducible repeat (first | apply Kd.R_alloc | apply Kd.R_drewN | apply Kd.R_drew)); exact HO_6.out)) k_ hk, Kd.fresh' (Kd.R_lt (by (with_reducible repeat (first | apply Kd.R_alloc | apply Kd.R_drewN | apply Kd.R_drew)); exact HO_8.out)) k_ hk, Kd.fresh' (Kd.R_lt (by (with_reducible repeat (first | apply Kd.R_alloc | apply Kd.R_drewN | apply Kd.R_drew)); exact HO_10.out)) k_ hk⟩)); (case aO => exact (by (with_reducible repeat (first | apply Kd.R_alloc | apply Kd.R_drewN | apply Kd.R_drew)); exact Kd.R_mono HO267.out (fun _ hk => ⟨hk.1.1.2, ⟨hk.1.2, hk.2⟩⟩))); (case aS => exact (below_size (by repeat (first | (with_reducible first | exact HB.out | apply below_alloc | apply pw_below_drewN | apply below_drew1 | refine below_set ?_ GE252.out | refine below_set ?_ GE258.out | refine below_set ?_ GE264.out) | exact HB.out)))); (case aL => have := LMc68.out; omega); intro v269 w109 ho hb hg hat; rw [← Ny268.out] at ho; have n0_ := Aside0.mk (Kd.R_after (ok := (fun k_ => some k_ ≠ (v254 : Value).ownBlock ∧ some k_ ≠ (v260 : Value).ownBlock)) (by (with_reducible repeat (first | apply Kd.R_alloc | apply Kd.R_drewN | apply Kd.R_drew)); exact HO_6.out) hg hat); have n1_ := Aside0.mk (Kd.R_after (ok := (fun k_ => some k_ ≠ (.slice Ao107 t247.length co107 : Value).ownBlock ∧ some k_ ≠ (v260 : Value).ownBlock)) (by (with_reducible repeat (first | apply Kd.R_alloc | apply Kd.R_drewN | apply Kd.R_drew)); exact HO_8.out) hg hat); have n2_ := Aside0.mk (Kd.R_after (ok := (fun k_ => some k_ ≠ (.slice Ao107 t247.length co107 : Value).ownBlock ∧ some k_ ≠ (v254 : Value).ownBlock)) (by (with_reducible repeat (first | apply Kd.R_alloc | apply Kd.R_drewN | apply Kd.R_drew)); exact HO_10.out) hg hat); have n3_ := Aside0.mk (blk_grown (g := gb252) (o := .cells #[.int .i64 t250, .int .i64 t251] 26 (0, 0)) (by (with_reducible repeat (first | refine blk_drewN ?_ _ | refine blk_drew ?_ | refine blk_alloc ?_ _)); exact BK252.out) hg (Kd.R_ne HO267.out BK252.out (by decide))); have n4_ := Aside0.mk (blk_grown (g := gb258) (o := .cells #[.int .i64 t256, .int .i64 t257] 26 (0, 0)) (by (with_reducible repeat (first | refine blk_drewN ?_ _ | refine blk_drew ?_ | refine blk_alloc ?_ _)); exact BK258.out) hg (Kd.R_ne HO267.out BK258.out (by decide))); have n5_ := Aside0.mk (blk_grown (g := gb264) (o := .cells #[.int .i64 t262, .int .i64 t263] 26 (0, 0)) (by (with_reducible repeat (first | refine blk_drewN ?_ _ | refine blk_drew ?_ | refine blk_alloc ?_ _)); exact BK264.out) hg (Kd.R_ne HO267.out BK264.out (by decide))); have n6_ := Aside0.mk (hb); have n7_ := Aside0.mk (ho); clear HO_6; clear HO_8; clear HO_10; clear BK252; clear BK258; clear BK264; clear HB; clear HO267; have HO_6 := n0_; have HO_8 := n1_; have HO_10 := n2_; have BK252 := n3_; have BK258 := n4_; have BK264 := n5_; have HB := n6_; have HO270 := n7_; clear n0_ n1_ n2_ n3_ n4_ n5_ n6_ n7_; clear ho hb hg hat; have hnb110 := NB258_252.out; have hnc110 := NB252_258.out; have hnb111 := NB258_264.out; have hnc111 := NB264_258.out; have hcz112_0 : w109.cell? ⟨gb258, 0, none⟩ = some (.int .i64 t256) := (blk_cell BK258.out 0).trans rfl; have hcz112_1 : w109.cell? ⟨gb258, 1, none⟩ = some (.int .i64 t257) := (blk_cell BK258.out 1).trans rfl; have hfz112_0 := blk_frozen BK258.out 0; have hfz112_1 := blk_frozen BK258.out 1; have hnb113 := NB264_252.out; have hnc113 := NB252_264.out; have hcz114_0 : w109.cell? ⟨gb264, 0, none⟩ = some (.int .i64 t262) := (blk_cell BK264.out 0).trans rfl; have hcz114_1 : w109.cell? ⟨gb264, 1, none⟩ = some (.int .i64 t263) := (blk_cell BK264.out 1).trans rfl; have hfz114_0 := blk_frozen BK264.out 0; have hfz114_1 := blk_frozen BK264.out 1))
                            go_ret
                            exact ⟨by first | rfl | (simp [errW_none, errW_some] <;> rfl) | (simp [*, errW_none, errW_some] <;> rfl), by repeat (first | (with_reducible first | exact HB.out | apply below_alloc | apply pw_below_drewN | apply below_drew1 | refine below_set ?_ GE252.out | refine below_set ?_ GE258.out | refine below_set ?_ GE264.out) | exact HB.out)⟩
                        · rw [if_neg c70] at H
                          have c70b0 : (t256 == 0 && (t257 == 0)) = false := by simpa using c70
                          (try (have c70b1 : decide (t256 = 0 && (t257 == 0)) = false := by simpa using c70))
                          (try (have c70b2 : (t256 == 0 && (t257 == 0)) = false := by simpa using c70))
                          (try (have c70b3 : ¬ (t256 = 0 && (t257 == 0)) := by simpa using c70))
                          clear c70
                          obtain rfl := Option.some.inj H
                          obtain ⟨Ao115, co115, eo115⟩ := Kd.R_slice HO_6.out
                          subst eo115
                          go_wp2_with (first | ((with_reducible refine gate_callee (f := 29) rfl ?_); refine goesL_ (some 59) rfl rfl Tryd.func29 (by kernel_rfl) rfl #[.slice Ao115 t247.length co115] rfl (by (try simp only [List.map_toArray, List.map_cons, List.map_nil]); first | done | rfl | (simp only [List.length_drop, List.length_take]; rfl)) ?_; (with_reducible refine (rejoinderkit_CopyToks.calls _ _ t247 t265 _ ?side1 ?side2 A67.out).mono ?_); (case side1 => repeat (first | exact (Kd.R_reads' HO_6.out).2.2 | (with_reducible refine Kd.C_alloc ?_ _) | (with_reducible refine Kd.C_drewN ?_ _) | (with_reducible refine Kd.C_drew ?_))); (case side2 => exact (Kd.R_reads' HO_6.out).2.1); rintro e w116 ⟨v266, rfl, ho0, hb⟩; refine ⟨_, rfl, ?_⟩; have n0_ := Aside0.mk (Kd.R_elder' (by (with_reducible repeat (first | apply Kd.R_alloc | apply Kd.R_drewN | apply Kd.R_drew)); exact HO_6.out) (Kd.R_base ho0) hb); have n1_ := Aside0.mk (Kd.R_elder' (by (with_reducible repeat (first | apply Kd.R_alloc | apply Kd.R_drewN | apply Kd.R_drew)); exact HO_8.out) (Kd.R_base ho0) hb); have n2_ := Aside0.mk (Kd.R_elder' (by (with_reducible repeat (first | apply Kd.R_alloc | apply Kd.R_drewN | apply Kd.R_drew)); exact HO_10.out) (Kd.R_base ho0) hb); have n3_ := Aside0.mk (Kd.R_lower (Kd.R_new' (Kd.R_new' (Kd.R_new' ho0 (Kd.R_lt (by (with_reducible repeat (first | apply Kd.R_alloc | apply Kd.R_drewN | apply Kd.R_drew)); exact HO_6.out))) (Kd.R_lt (by (with_reducible repeat (first | apply Kd.R_alloc | apply Kd.R_drewN | apply Kd.R_drew)); exact HO_8.out))) (Kd.R_lt (by (with_reducible repeat (first | apply Kd.R_alloc | apply Kd.R_drewN | apply Kd.R_drew)); exact HO_10.out))) (below_size (by repeat (first | (with_reducible first | exact HB.out | apply below_alloc | apply pw_below_drewN | apply below_drew1 | refine below_set ?_ GE252.out | refine below_set ?_ GE258.out | refine below_set ?_ GE264.out) | exact HB.out)))); have n4_ := Aside0.mk (blk_below (g := gb252) (o := .cells #[.int .i64 t250, .int .i64 t251] 26 (0, 0)) (by (with_reducible repeat (first | refine blk_drewN ?_ _ | refine blk_drew ?_ | refine blk_alloc ?_ _)); exact BK252.out) hb); have n5_ := Aside0.mk (blk_below (g := gb258) (o := .cells #[.int .i64 t256, .int .i64 t257] 26 (0, 0)) (by (with_reducible repeat (first | refine blk_drewN ?_ _ | refine blk_drew ?_ | refine blk_alloc ?_ _)); exact BK258.out) hb); have n6_ := Aside0.mk (blk_below (g := gb264) (o := .cells #[.int .i64 t262, .int .i64 t263] 26 (0, 0)) (by (with_reducible repeat (first | refine blk_drewN ?_ _ | refine blk_drew ?_ | refine blk_alloc ?_ _)); exact BK264.out) hb); have n7_ := Aside0.mk (below_step (by repeat (first | (with_reducible first | exact HB.out | apply below_alloc | apply pw_below_drewN | apply below_drew1 | refine below_set ?_ GE252.out | refine below_set ?_ GE258.out | refine below_set ?_ GE264.out) | exact HB.out)) hb); clear HO_6; clear HO_8; clear HO_10; clear BK252; clear BK258; clear BK264; clear HB; have HO_6 := n0_; have HO_8 := n1_; have HO_10 := n2_; have HO267 := n3_; have BK252 := n4_; have BK258 := n5_; have BK264 := n6_; have HB := n7_; clear n0_ n1_ n2_ n3_ n4_ n5_ n6_ n7_; (try clear hb); (try clear hb2); (try clear hk); (try clear hi); (try clear ho0)) | ((with_reducible refine gate_builtin (b := .append) (xs := #[.tmp 59, .tmp 61]) rfl ?_); (try (refine gate_guard (by rfl) ?_; dsimp only)); at_builtin; refine Kd.R_append k55 (w0 := w) w.heap.size rfl (.tmp 59) (.tmp 61) 46 55 (.agg #[(.int .u8 0), (.int .u8 0)]) 2 rfl Tryd.underlying46 info55 rfl (by decide) (by omega) v266 t265 (⟨0, 0⟩ : S55) [.int .u8 0, .int .u8 0] (fun k_ => some k_ ≠ (.slice Ao115 t247.length co115 : Value).ownBlock ∧ some k_ ≠ (v254 : Value).ownBlock ∧ some k_ ≠ (v260 : Value).ownBlock) (fun _ => False) rfl rfl ?aP (fun _ hk => hk.elim) ?aF ?aO ?aB ?aS ?aL ?_; (case aP => exact k55_mkM _ _ _ (⟨0, 0⟩ : S55)); (case aB => exact (by repeat (first | (with_reducible first | exact HB.out | apply below_alloc | apply pw_below_drewN | apply below_drew1 | refine below_set ?_ GE252.out | refine below_set ?_ GE258.out | refine below_set ?_ GE264.out) | exact HB.out))); (case aF => exact (fun k_ hk => ⟨Kd.fresh' (Kd.R_lt (by (with_reducible repeat (first | apply Kd.R_alloc | apply Kd.R_drewN | apply Kd.R_drew)); exact HO_6.out)) k_ hk, Kd.fresh' (Kd.R_lt (by (with_reducible repeat (first | apply Kd.R_alloc | apply Kd.R_drewN | apply Kd.R_drew)); exact HO_8.out)) k_ hk, Kd.fresh' (Kd.R_lt (by (with_reducible repeat (first | apply Kd.R_alloc | apply Kd.R_drewN | apply Kd.R_drew)); exact HO_10.out)) k_ hk⟩)); (case aO => exact (by (with_reducible repeat (first | apply Kd.R_alloc | apply Kd.R_drewN | apply Kd.R_drew)); exact Kd.R_mono HO267.out (fun _ hk => ⟨hk.1.1.2, ⟨hk.1.2, hk.2⟩⟩))); (case aS => exact (below_size (by repeat (first | (with_reducible first | exact HB.out | apply below_alloc | apply pw_below_drewN | apply below_drew1 | refine below_set ?_ GE252.out | refine below_set ?_ GE258.out | refine below_set ?_ GE264.out) | exact HB.out)))); (case aL => have := LMc68.out; omega); intro v269 w117 ho hb hg hat; rw [← Ny268.out] at ho; have n0_ := Aside0.mk (Kd.R_after (ok := (fun k_ => some k_ ≠ (v254 : Value).ownBlock ∧ some k_ ≠ (v260 : Value).ownBlock)) (by (with_reducible repeat (first | apply Kd.R_alloc | apply Kd.R_drewN | apply Kd.R_drew)); exact HO_6.out) hg hat); have n1_ := Aside0.mk (Kd.R_after (ok := (fun k_ => some k_ ≠ (.slice Ao115 t247.length co115 : Value).ownBlock ∧ some k_ ≠ (v260 : Value).ownBlock)) (by (with_reducible repeat (first | apply Kd.R_alloc | apply Kd.R_drewN | apply Kd.R_drew)); exact HO_8.out) hg hat); have n2_ := Aside0.mk (Kd.R_after (ok := (fun k_ => some k_ ≠ (.slice Ao115 t247.length co115 : Value).ownBlock ∧ some k_ ≠ (v254 : Value).ownBlock)) (by (with_reducible repeat (first | apply Kd.R_alloc | apply Kd.R_drewN | apply Kd.R_drew)); exact HO_10.out) hg hat); have n3_ := Aside0.mk (blk_grown (g := gb252) (o := .cells #[.int .i64 t250, .int .i64 t251] 26 (0, 0)) (by (with_reducible repeat (first | refine blk_drewN ?_ _ | refine blk_drew ?_ | refine blk_alloc ?_ _)); exact BK252.out) hg (Kd.R_ne HO267.out BK252.out (by decide))); have n4_ := Aside0.mk (blk_grown (g := gb258) (o := .cells #[.int .i64 t256, .int .i64 t257] 26 (0, 0)) (by (with_reducible repeat (first | refine blk_drewN ?_ _ | refine blk_drew ?_ | refine blk_alloc ?_ _)); exact BK258.out) hg (Kd.R_ne HO267.out BK258.out (by decide))); have n5_ := Aside0.mk (blk_grown (g := gb264) (o := .cells #[.int .i64 t262, .int .i64 t263] 26 (0, 0)) (by (with_reducible repeat (first | refine blk_drewN ?_ _ | refine blk_drew ?_ | refine blk_alloc ?_ _)); exact BK264.out) hg (Kd.R_ne HO267.out BK264.out (by decide))); have n6_ := Aside0.mk (hb); have n7_ := Aside0.mk (ho); clear HO_6; clear HO_8; clear HO_10; clear BK252; clear BK258; clear BK264; clear HB; clear HO267; have HO_6 := n0_; have HO_8 := n1_; have HO_10 := n2_; have BK252 := n3_; have BK258 := n4_; have BK264 := n5_; have HB := n6_; have HO270 := n7_; clear n0_ n1_ n2_ n3_ n4_ n5_ n6_ n7_; clear ho hb hg hat; have hnb118 := NB258_252.out; have hnc118 := NB252_258.out; have hnb119 := NB258_264.out; have hnc119 := NB264_258.out; have hcz120_0 : w117.cell? ⟨gb258, 0, none⟩ = some (.int .i64 t256) := (blk_cell BK258.out 0).trans rfl; have hcz120_1 : w117.cell? ⟨gb258, 1, none⟩ = some (.int .i64 t257) := (blk_cell BK258.out 1).trans rfl; have hfz120_0 := blk_frozen BK258.out 0; have hfz120_1 := blk_frozen BK258.out 1))
                          go_ret
                          exact ⟨by first | rfl | (simp [errW_none, errW_some] <;> rfl) | (simp [*, errW_none, errW_some] <;> rfl), by repeat (first | (with_reducible first | exact HB.out | apply below_alloc | apply pw_below_drewN | apply below_drew1 | refine below_set ?_ GE252.out | refine below_set ?_ GE258.out | refine below_set ?_ GE264.out) | exact HB.out)⟩
                      · replace c69 := Bool.eq_false_iff.mpr c69
                        subst c69
                        have H1 : (some false) = some r := by rw [if_neg (show ¬ (false = true) by decide)] at H; exact H
                        clear H
                        have H := H1
                        clear H1
                        obtain rfl := Option.some.inj H
                        obtain ⟨Ao121, co121, eo121⟩ := Kd.R_slice HO_6.out
                        subst eo121
                        go_wp2_with (first | ((with_reducible refine gate_callee (f := 29) rfl ?_); refine goesL_ (some 59) rfl rfl Tryd.func29 (by kernel_rfl) rfl #[.slice Ao121 t247.length co121] rfl (by (try simp only [List.map_toArray, List.map_cons, List.map_nil]); first | done | rfl | (simp only [List.length_drop, List.length_take]; rfl)) ?_; (with_reducible refine (rejoinderkit_CopyToks.calls _ _ t247 t265 _ ?side1 ?side2 A67.out).mono ?_); (case side1 => repeat (first | exact (Kd.R_reads' HO_6.out).2.2 | (with_reducible refine Kd.C_alloc ?_ _) | (with_reducible refine Kd.C_drewN ?_ _) | (with_reducible refine Kd.C_drew ?_))); (case side2 => exact (Kd.R_reads' HO_6.out).2.1); rintro e w122 ⟨v266, rfl, ho0, hb⟩; refine ⟨_, rfl, ?_⟩; have n0_ := Aside0.mk (Kd.R_elder' (by (with_reducible repeat (first | apply Kd.R_alloc | apply Kd.R_drewN | apply Kd.R_drew)); exact HO_6.out) (Kd.R_base ho0) hb); have n1_ := Aside0.mk (Kd.R_elder' (by (with_reducible repeat (first | apply Kd.R_alloc | apply Kd.R_drewN | apply Kd.R_drew)); exact HO_8.out) (Kd.R_base ho0) hb); have n2_ := Aside0.mk (Kd.R_elder' (by (with_reducible repeat (first | apply Kd.R_alloc | apply Kd.R_drewN | apply Kd.R_drew)); exact HO_10.out) (Kd.R_base ho0) hb); have n3_ := Aside0.mk (Kd.R_lower (Kd.R_new' (Kd.R_new' (Kd.R_new' ho0 (Kd.R_lt (by (with_reducible repeat (first | apply Kd.R_alloc | apply Kd.R_drewN | apply Kd.R_drew)); exact HO_6.out))) (Kd.R_lt (by (with_reducible repeat (first | apply Kd.R_alloc | apply Kd.R_drewN | apply Kd.R_drew)); exact HO_8.out))) (Kd.R_lt (by (with_reducible repeat (first | apply Kd.R_alloc | apply Kd.R_drewN | apply Kd.R_drew)); exact HO_10.out))) (below_size (by repeat (first | (with_reducible first | exact HB.out | apply below_alloc | apply pw_below_drewN | apply below_drew1 | refine below_set ?_ GE252.out | refine below_set ?_ GE258.out | refine below_set ?_ GE264.out) | exact HB.out)))); have n4_ := Aside0.mk (blk_below (g := gb252) (o := .cells #[.int .i64 t250, .int .i64 t251] 26 (0, 0)) (by (with_reducible repeat (first | refine blk_drewN ?_ _ | refine blk_drew ?_ | refine blk_alloc ?_ _)); exact BK252.out) hb); have n5_ := Aside0.mk (blk_below (g := gb258) (o := .cells #[.int .i64 t256, .int .i64 t257] 26 (0, 0)) (by (with_reducible repeat (first | refine blk_drewN ?_ _ | refine blk_drew ?_ | refine blk_alloc ?_ _)); exact BK258.out) hb); have n6_ := Aside0.mk (blk_below (g := gb264) (o := .cells #[.int .i64 t262, .int .i64 t263] 26 (0, 0)) (by (with_reducible repeat (first | refine blk_drewN ?_ _ | refine blk_drew ?_ | refine blk_alloc ?_ _)); exact BK264.out) hb); have n7_ := Aside0.mk (below_step (by repeat (first | (with_reducible first | exact HB.out | apply below_alloc | apply pw_below_drewN | apply below_drew1 | refine below_set ?_ GE252.out | refine below_set ?_ GE258.out | refine below_set ?_ GE264.out) | exact HB.out)) hb); clear HO_6; clear HO_8; clear HO_10; clear BK252; clear BK258; clear BK264; clear HB; have HO_6 := n0_; have HO_8 := n1_; have HO_10 := n2_; have HO267 := n3_; have BK252 := n4_; have BK258 := n5_; have BK264 := n6_; have HB := n7_; clear n0_ n1_ n2_ n3_ n4_ n5_ n6_ n7_; (try clear hb); (try clear hb2); (try clear hk); (try clear hi); (try clear ho0)) | ((with_reducible refine gate_builtin (b := .append) (xs := #[.tmp 59, .tmp 61]) rfl ?_); (try (refine gate_guard (by rfl) ?_; dsimp only)); at_builtin; refine Kd.R_append k55 (w0 := w) w.heap.size rfl (.tmp 59) (.tmp 61) 46 55 (.agg #[(.int .u8 0), (.int .u8 0)]) 2 rfl Tryd.underlying46 info55 rfl (by decide) (by omega) v266 t265 (⟨0, 0⟩ : S55) [.int .u8 0, .int .u8 0] (fun k_ => some k_ ≠ (.slice Ao121 t247.length co121 : Value).ownBlock ∧ some k_ ≠ (v254 : Value).ownBlock ∧ some k_ ≠ (v260 : Value).ownBlock) (fun _ => False) rfl rfl ?aP (fun _ hk => hk.elim) ?aF ?aO ?aB ?aS ?aL ?_; (case aP => exact k55_mkM _ _ _ (⟨0, 0⟩ : S55)); (case aB => exact (by repeat (first | (with_reducible first | exact HB.out | apply below_alloc | apply pw_below_drewN | apply below_drew1 | refine below_set ?_ GE252.out | refine below_set ?_ GE258.out | refine below_set ?_ GE264.out) | exact HB.out))); (case aF => exact (fun k_ hk => ⟨Kd.fresh' (Kd.R_lt (by (with_reducible repeat (first | apply Kd.R_alloc | apply Kd.R_drewN | apply Kd.R_drew)); exact HO_6.out)) k_ hk, Kd.fresh' (Kd.R_lt (by (with_reducible repeat (first | apply Kd.R_alloc | apply Kd.R_drewN | apply Kd.R_drew)); exact HO_8.out)) k_ hk, Kd.fresh' (Kd.R_lt (by (with_reducible repeat (first | apply Kd.R_alloc | apply Kd.R_drewN | apply Kd.R_drew)); exact HO_10.out)) k_ hk⟩)); (case aO => exact (by (with_reducible repeat (first | apply Kd.R_alloc | apply Kd.R_drewN | apply Kd.R_drew)); exact Kd.R_mono HO267.out (fun _ hk => ⟨hk.1.1.2, ⟨hk.1.2, hk.2⟩⟩))); (case aS => exact (below_size (by repeat (first | (with_reducible first | exact HB.out | apply below_alloc | apply pw_below_drewN | apply below_drew1 | refine below_set ?_ GE252.out | refine below_set ?_ GE258.out | refine below_set ?_ GE264.out) | exact HB.out)))); (case aL => have := LMc68.out; omega); intro v269 w123 ho hb hg hat; rw [← Ny268.out] at ho; have n0_ := Aside0.mk (Kd.R_after (ok := (fun k_ => some k_ ≠ (v254 : Value).ownBlock ∧ some k_ ≠ (v260 : Value).ownBlock)) (by (with_reducible repeat (first | apply Kd.R_alloc | apply Kd.R_drewN | apply Kd.R_drew)); exact HO_6.out) hg hat); have n1_ := Aside0.mk (Kd.R_after (ok := (fun k_ => some k_ ≠ (.slice Ao121 t247.length co121 : Value).ownBlock ∧ some k_ ≠ (v260 : Value).ownBlock)) (by (with_reducible repeat (first | apply Kd.R_alloc | apply Kd.R_drewN | apply Kd.R_drew)); exact HO_8.out) hg hat); have n2_ := Aside0.mk (Kd.R_after (ok := (fun k_ => some k_ ≠ (.slice Ao121 t247.length co121 : Value).ownBlock ∧ some k_ ≠ (v254 : Value).ownBlock)) (by (with_reducible repeat (first | apply Kd.R_alloc | apply Kd.R_drewN | apply Kd.R_drew)); exact HO_10.out) hg hat); have n3_ := Aside0.mk (blk_grown (g := gb252) (o := .cells #[.int .i64 t250, .int .i64 t251] 26 (0, 0)) (by (with_reducible repeat (first | refine blk_drewN ?_ _ | refine blk_drew ?_ | refine blk_alloc ?_ _)); exact BK252.out) hg (Kd.R_ne HO267.out BK252.out (by decide))); have n4_ := Aside0.mk (blk_grown (g := gb258) (o := .cells #[.int .i64 t256, .int .i64 t257] 26 (0, 0)) (by (with_reducible repeat (first | refine blk_drewN ?_ _ | refine blk_drew ?_ | refine blk_alloc ?_ _)); exact BK258.out) hg (Kd.R_ne HO267.out BK258.out (by decide))); have n5_ := Aside0.mk (blk_grown (g := gb264) (o := .cells #[.int .i64 t262, .int .i64 t263] 26 (0, 0)) (by (with_reducible repeat (first | refine blk_drewN ?_ _ | refine blk_drew ?_ | refine blk_alloc ?_ _)); exact BK264.out) hg (Kd.R_ne HO267.out BK264.out (by decide))); have n6_ := Aside0.mk (hb); have n7_ := Aside0.mk (ho); clear HO_6; clear HO_8; clear HO_10; clear BK252; clear BK258; clear BK264; clear HB; clear HO267; have HO_6 := n0_; have HO_8 := n1_; have HO_10 := n2_; have BK252 := n3_; have BK258 := n4_; have BK264 := n5_; have HB := n6_; have HO270 := n7_; clear n0_ n1_ n2_ n3_ n4_ n5_ n6_ n7_; clear ho hb hg hat))
                        go_ret
                        exact ⟨by first | rfl | (simp [errW_none, errW_some] <;> rfl) | (simp [*, errW_none, errW_some] <;> rfl), by repeat (first | (with_reducible first | exact HB.out | apply below_alloc | apply pw_below_drewN | apply below_drew1 | refine below_set ?_ GE252.out | refine below_set ?_ GE258.out | refine below_set ?_ GE264.out) | exact HB.out)⟩
                    · rw [if_neg c68] at H
                      exact absurd H (by simp)
          · rw [if_neg c11] at H
            exact absurd H (by simp)
        · rw [if_neg c10] at H
          exact absurd H (by simp)
      · rw [if_neg c8] at H
        exact absurd H (by simp)
    · rw [if_neg c7] at H
      exact absurd H (by simp)
end Go.Proofs.YtaogoabnidbbpaaDoor.PText
/-! TextPathsLaw -/
namespace Go.Proofs.YtaogoabnidbbpaaDoor.PText
open Go.RowKit Go.Proofs.YtaogoabnidbbpaaDoorW.PrintWords Go.Proofs.YtaogoabnidbbpaaDoorW.PrintLast Go.Proofs.YtaogoabnidbbpaaDoorW.PrintMore
set_option linter.unusedVariables false
set_option linter.unusedSimpArgs false
theorem formula_now (names : List ByteArray) (s : ByteArray) : parse_Formula.f names s = some (readL names s.data.toList false) := rfl
theorem path_now (names : List ByteArray) (s : ByteArray) : parse_Path.f names s = some (readL names s.data.toList true) := rfl
set_option maxRecDepth 100000 in
theorem awake5_now : rejoinderlaw05_awake.f 30 = some true := by decide +kernel
theorem awake5_ev : Ev (fun k => rejoinderlaw05_awake.f k) true := Ev.of (fun k => rejoinderlaw05_awake.mono k) awake5_now
theorem bytes_app (a b : ByteArray) : (a ++ b).data.toList = a.data.toList ++ b.data.toList := by
  rw [ByteArray.data_append, Array.toList_append]
theorem copy_now (l : List Tk) (h : l.length < 70368744177664) : rejoinderkit_CopyToks.f l = some l := by
  unfold rejoinderkit_CopyToks.f
  rw [Option.bind_some, if_pos (by simpa using h), List.nil_append]
theorem true_reads (names : List ByteArray) : Reads names .unary [((1 : Int), [116, 114, 117, 101])] [(⟨0, 0⟩ : Tk)] [] :=
  .atom (by decide) (by decide) (.word (by decide))
theorem lex_true : LexR [32, 116, 114, 117, 101] [(1, [116, 114, 117, 101])] := by
  have := lex_word (w := [116, 114, 117, 101]) (v := []) (by decide) (by decide) (by decide) (fun c t h => by cases h) .nil
  rw [show (sortL [116, 114, 117, 101]).1 = 1 by decide] at this
  exact .blank this
theorem dia_lex {s : Bs} {sl : List Sy} {names : List ByteArray} {l : List Tk} (h : LexR s sl) (hr : Reads names .plus sl l []) : LexR (60 :: (s ++ [62, 32, 116, 114, 117, 101])) ((0, [60]) :: (sl ++ [(0, [62]), (1, [116, 114, 117, 101])])) := by
  obtain ⟨k, w, t, rfl, hw⟩ := plus_head hr
  refine lex_less (fun u hu => ?_) (lex_app (.inr ⟨62, _, rfl, by decide⟩) h (lex_one (by decide) lex_true))
  rcases s with _ | ⟨c, s⟩
  · cases h
  · have hc := lex_head h c s rfl
    rw [List.cons_append] at hu
    injection hu with hu _
    subst hu
    rcases hc with hc | ⟨u, hc⟩
    · exact absurd hc (by decide)
    · rcases hw with rfl | rfl | rfl <;> (injection hc with hc _; exact absurd hc (by decide))
theorem dia_reads {sl : List Sy} {names : List ByteArray} {l : List Tk} (hr : Reads names .plus sl l []) : Reads names .iff ((0, [60]) :: (sl ++ [((0 : Int), ([62] : Bs)), (1, [116, 114, 117, 101])])) (l ++ [(⟨0, 0⟩ : Tk)] ++ [(⟨17, 0⟩ : Tk)]) [] := by
  have h1 := reads_ext hr [((0 : Int), ([62] : Bs)), (1, [116, 114, 117, 101])] (by unfold Shut; decide)
  exact iff_of_unary (.modal (by decide) h1 (true_reads names)) (by unfold Shut; decide)
theorem box_lex {s : Bs} {sl : List Sy} (h : LexR s sl) : LexR (91 :: 40 :: (s ++ [41, 93, 32, 116, 114, 117, 101])) ((0, [91]) :: (0, [40]) :: (sl ++ [(0, [41]), (0, [93]), (1, [116, 114, 117, 101])])) :=
  lex_one (by decide) (lex_one (by decide) (lex_app (.inr ⟨41, _, rfl, by decide⟩) h (lex_one (by decide) (lex_one (by decide) lex_true))))
theorem box_reads {sl : List Sy} {names : List ByteArray} {l : List Tk} (hr : Reads names .plus sl l []) : Reads names .iff ((0, [91]) :: (0, [40]) :: (sl ++ [((0 : Int), ([41] : Bs)), (0, [93]), (1, [116, 114, 117, 101])])) (l ++ [(⟨0, 0⟩ : Tk)] ++ [(⟨18, 0⟩ : Tk)]) [] := by
  have h1 := reads_ext hr [((0 : Int), ([41] : Bs)), (0, [93]), (1, [116, 114, 117, 101])] (by unfold Shut; decide)
  have h2 : Reads names .plus ((0, [40]) :: (sl ++ [((0 : Int), ([41] : Bs)), (0, [93]), (1, [116, 114, 117, 101])])) l [((0 : Int), ([93] : Bs)), (1, [116, 114, 117, 101])] := plus_of_bare (.group h1) (by unfold Shut; decide)
  exact iff_of_unary (.modal (by decide) h2 (true_reads names)) (by unfold Shut; decide)
theorem paths_law (names : List ByteArray) (a1 : ByteArray) : Ev (fun k => rejoinderlaw05_ParsePaths.f k names a1) true := by
  have hsz := size_eq a1
  simp only [rejoinderlaw05_ParsePaths.f]
  refine Ev.bind awake5_ev ?_
  by_cases h300 : (a1.size : Int) > 300
  · simp only [if_pos h300]
    exact Ev.now _
  have hz : ((⟨#[60]⟩ : ByteArray) ++ a1).size + 6 ≤ 9223372036854775807 := by rw [ByteArray.size_append]; show 1 + a1.size + 6 ≤ _; omega
  have hy : ((⟨#[91, 40]⟩ : ByteArray) ++ a1).size + 7 ≤ 9223372036854775807 := by rw [ByteArray.size_append]; show 2 + a1.size + 7 ≤ _; omega
  have hz2 : 1 + a1.size ≤ 9223372036854775807 := by omega
  have hy2 : 2 + a1.size ≤ 9223372036854775807 := by omega
  simp only [if_neg h300, path_now, formula_now, Option.bind_some, if_pos hz, if_pos hy, if_pos hz2, if_pos hy2]
  have ez : (((⟨#[60]⟩ : ByteArray) ++ a1) ++ (⟨#[62, 32, 116, 114, 117, 101]⟩ : ByteArray)).data.toList = 60 :: (a1.data.toList ++ [62, 32, 116, 114, 117, 101]) := by rw [bytes_app, bytes_app]; rfl
  have ey : (((⟨#[91, 40]⟩ : ByteArray) ++ a1) ++ (⟨#[41, 93, 32, 116, 114, 117, 101]⟩ : ByteArray)).data.toList = 91 :: 40 :: (a1.data.toList ++ [41, 93, 32, 116, 114, 117, 101]) := by rw [bytes_app, bytes_app]; rfl
  rw [ez, ey]
  by_cases hP : (readL names a1.data.toList true).2.1 = 0 ∧ (readL names a1.data.toList true).2.2 = 0
  · obtain ⟨l, hl⟩ : ∃ l, readL names a1.data.toList true = (l, 0, 0) := ⟨(readL names a1.data.toList true).1, Prod.ext rfl (Prod.ext hP.1 hP.2)⟩
    obtain ⟨h0, h1, sl, hx, hr, hc⟩ := readL_ok hl
    have hlen := (check_inv hc).1
    obtain ⟨d, hd⟩ := check_modal hc (op := 17) (.inl rfl)
    have hZ := readL_of (path := false) h0 (by rw [List.length_cons, List.length_append]; show a1.data.toList.length + 6 + 1 ≤ _; omega) (dia_lex hx hr) (dia_reads hr)
    have hY := readL_of (path := false) h0 (by rw [List.length_cons, List.length_cons, List.length_append]; show a1.data.toList.length + 7 + 1 + 1 ≤ _; omega) (box_lex hx) (box_reads hr)
    rw [hd 17 (.inl rfl)] at hZ
    rw [hd 18 (.inr rfl)] at hY
    rw [hl, hZ, hY]
    by_cases hL : l.length + 2 > 512
    · refine Ev.step (f := fun k => some true) (fun k => ?_) (Ev.now _)
      simp [if_pos hL, rejoinderlaw05_ParsePaths.j0]
    · by_cases hD : d > 64
      · refine Ev.step (f := fun k => some true) (fun k => ?_) (Ev.now _)
        simp [if_neg hL, if_pos hD, rejoinderlaw05_ParsePaths.j0]
      · simp only [if_neg hL, if_neg hD, if_true]
        refine Ev.step (f := fun k => (rejoinderkit_SameToks.f k (l ++ [(⟨0, 0⟩ : Tk)] ++ [(⟨17, 0⟩ : Tk)]) (l ++ [(⟨0, 0⟩ : Tk)] ++ [(⟨17, 0⟩ : Tk)])).bind fun t => if t = true then (rejoinderkit_SameToks.f k (l ++ [(⟨0, 0⟩ : Tk)] ++ [(⟨18, 0⟩ : Tk)]) (l ++ [(⟨0, 0⟩ : Tk)] ++ [(⟨18, 0⟩ : Tk)])).bind fun t => some t else some false) (fun k => ?_) ?_
        · have e1 := copy_now l (by omega)
          have e2 := copy_now (l ++ [(⟨0, 0⟩ : Tk)]) (by rw [List.length_append]; show l.length + 1 < _; omega)
          have b1 : l.length < 70368744177664 := by omega
          have b2 : (l ++ [(⟨0, 0⟩ : Tk)]).length < 70368744177664 := by rw [List.length_append]; show l.length + 1 < _; omega
          have b3 : l.length + 1 < 70368744177664 := by omega
          simp [rejoinderlaw05_ParsePaths.j0, e1, e2, b1, b2, b3]
        · refine Ev.bind (Trm.same_ev _ (by simp; omega)) ?_
          exact Ev.bind (f := fun _ t => some t) (Trm.same_ev _ (by simp; omega)) (Ev.now _)
  · have hb := readL_bad hP
    have hc : (!((readL names a1.data.toList true).2.1 == 0) || (!((readL names a1.data.toList true).2.2 == 0))) = true := by
      rcases Decidable.not_and_iff_or_not.1 hP with h | h <;> simp [h]
    simp only [hc, if_true, hb]
    exact Ev.now _
end Go.Proofs.YtaogoabnidbbpaaDoor.PText
