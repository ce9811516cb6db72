/- The values of the chapter's examples. -/
import Derived.Test.YtgemencaeocmmaaTermBlocksA1
import Derived.Test.YtgemencaeocmmaaPTermx10b
import Derived.Test.YtgemencaeocmmaaAid
namespace Go.Proofs.Ytgemencaeocmmaa.PTerm
open Go.RowKit Go.Proofs.YtgemencaeocmmaaW.PrintWords Go.Proofs.YtgemencaeocmmaaW.PrintLast Go.Proofs.YtgemencaeocmmaaW.PrintMore Go.Proofs.YtgemencaeocmmaaW.Aid
instance : DecidableEq S50 := fun a b => if h : a.f0 = b.f0 ∧ a.f1 = b.f1 then isTrue (by cases a; cases b; simp at h; simp [h]) else isFalse (by rintro rfl; exact h ⟨rfl, rfl⟩)
set_option maxRecDepth 100000 in
theorem kop15 : rejoinderlaw03_Op.f 15 = some 115 := by decide +kernel
set_option maxRecDepth 100000 in
theorem kop11 : rejoinderlaw03_Op.f 11 = some 111 := by decide +kernel
set_option maxRecDepth 100000 in
theorem kop6 : rejoinderlaw03_Op.f 6 = some 106 := by decide +kernel
set_option maxRecDepth 100000 in
theorem kop19 : rejoinderlaw03_Op.f 19 = some 119 := by decide +kernel
set_option maxRecDepth 100000 in
theorem kop17 : rejoinderlaw03_Op.f 17 = some 117 := by decide +kernel
set_option maxRecDepth 100000 in
theorem kop23 : rejoinderlaw03_Op.f 23 = some 123 := by decide +kernel
set_option maxRecDepth 100000 in
theorem kop7 : rejoinderlaw03_Op.f 7 = some 107 := by decide +kernel
set_option maxRecDepth 100000 in
theorem kop18 : rejoinderlaw03_Op.f 18 = some 118 := by decide +kernel
set_option maxRecDepth 100000 in
theorem kop14 : rejoinderlaw03_Op.f 14 = some 114 := by decide +kernel
set_option maxRecDepth 100000 in
theorem kt0 : (rejoinderlaw03_T.f 20 [0, 1, 115]) = some ([⟨2, 0⟩, ⟨2, 1⟩, ⟨15, 0⟩] : List Tk) := by decide +kernel
set_option maxRecDepth 100000 in
theorem kt1 : (rejoinderlaw03_T.f 20 [0]) = some ([⟨2, 0⟩] : List Tk) := by decide +kernel
set_option maxRecDepth 100000 in
theorem kt2 : (rejoinderlaw03_T.f 20 [0, 115]) = some ([⟨2, 0⟩, ⟨15, 0⟩] : List Tk) := by decide +kernel
set_option maxRecDepth 100000 in
theorem kt3 : (rejoinderlaw03_T.f 20 [0, 1]) = some ([⟨2, 0⟩, ⟨2, 1⟩] : List Tk) := by decide +kernel
set_option maxRecDepth 100000 in
theorem kt4 : (rejoinderlaw03_T.f 20 [0, 119]) = some ([⟨2, 0⟩, ⟨19, 0⟩] : List Tk) := by decide +kernel
set_option maxRecDepth 100000 in
theorem kt5 : (rejoinderlaw03_T.f 20 [0, 119, 123]) = some ([⟨2, 0⟩, ⟨19, 0⟩, ⟨23, 0⟩] : List Tk) := by decide +kernel
set_option maxRecDepth 100000 in
theorem kt6 : (rejoinderlaw03_T.f 20 [0, 107, 119, 1, 117]) = some ([⟨2, 0⟩, ⟨7, 0⟩, ⟨19, 0⟩, ⟨2, 1⟩, ⟨17, 0⟩] : List Tk) := by decide +kernel
set_option maxRecDepth 100000 in
theorem kt7 : (rejoinderlaw03_T.f 20 [0, 1, 106, 111]) = some ([⟨2, 0⟩, ⟨2, 1⟩, ⟨6, 0⟩, ⟨11, 0⟩] : List Tk) := by decide +kernel
set_option maxRecDepth 100000 in
theorem kt8 : (rejoinderlaw03_T.f 20 [0, 119, 3, 118]) = some ([⟨2, 0⟩, ⟨19, 0⟩, ⟨2, 3⟩, ⟨18, 0⟩] : List Tk) := by decide +kernel
set_option maxRecDepth 100000 in
theorem kt9 : (rejoinderlaw03_T.f 20 [1]) = some ([⟨2, 1⟩] : List Tk) := by decide +kernel
set_option maxRecDepth 100000 in
theorem kt10 : (rejoinderlaw03_T.f 20 [0, 1, 111]) = some ([⟨2, 0⟩, ⟨2, 1⟩, ⟨11, 0⟩] : List Tk) := by decide +kernel
set_option maxRecDepth 100000 in
theorem kt11 : (rejoinderlaw03_T.f 20 [0, 106]) = some ([⟨2, 0⟩, ⟨6, 0⟩] : List Tk) := by decide +kernel
set_option maxRecDepth 100000 in
theorem kt12 : (rejoinderlaw03_T.f 20 [0, 1, 114, 106]) = some ([⟨2, 0⟩, ⟨2, 1⟩, ⟨14, 0⟩, ⟨6, 0⟩] : List Tk) := by decide +kernel
set_option maxRecDepth 100000 in
theorem kt13 : (rejoinderlaw03_T.f 20 [0, 107]) = some ([⟨2, 0⟩, ⟨7, 0⟩] : List Tk) := by decide +kernel
set_option maxRecDepth 100000 in
theorem kt14 : (rejoinderlaw03_T.f 20 [0, 0, 106, 111]) = some ([⟨2, 0⟩, ⟨2, 0⟩, ⟨6, 0⟩, ⟨11, 0⟩] : List Tk) := by decide +kernel
set_option maxRecDepth 100000 in
theorem kc0 : term_Check.f 60 ([⟨2, 0⟩, ⟨2, 1⟩, ⟨15, 0⟩] : List Tk) = some 0 := by decide +kernel
set_option maxRecDepth 100000 in
theorem kc1 : term_Check.f 60 ([⟨2, 0⟩] : List Tk) = some 0 := by decide +kernel
set_option maxRecDepth 100000 in
theorem kc2 : term_Check.f 60 ([] : List Tk) = some 7 := by decide +kernel
set_option maxRecDepth 100000 in
theorem kc3 : term_Check.f 60 ([⟨2, 0⟩, ⟨15, 0⟩] : List Tk) = some 7 := by decide +kernel
set_option maxRecDepth 100000 in
theorem kc4 : term_Check.f 60 ([⟨2, 0⟩, ⟨2, 1⟩] : List Tk) = some 7 := by decide +kernel
set_option maxRecDepth 100000 in
theorem kc5 : term_Check.f 60 ([⟨2, 0⟩, ⟨19, 0⟩] : List Tk) = some 7 := by decide +kernel
set_option maxRecDepth 100000 in
theorem kc6 : term_Check.f 60 ([⟨2, 0⟩, ⟨7, 0⟩, ⟨19, 0⟩, ⟨2, 1⟩, ⟨17, 0⟩] : List Tk) = some 7 := by decide +kernel
set_option maxRecDepth 100000 in
theorem kp0 : term_Path.f 60 ([⟨2, 0⟩, ⟨19, 0⟩, ⟨23, 0⟩] : List Tk) = some 0 := by decide +kernel
set_option maxRecDepth 100000 in
theorem ko0 : term_Check.f 60 ([⟨0, 3⟩] : List Tk) = some 7 := by decide +kernel
set_option maxRecDepth 100000 in
theorem ko1 : term_Check.f 60 ([⟨24, 0⟩] : List Tk) = some 7 := by decide +kernel
set_option maxRecDepth 100000 in
theorem ko2 : term_Check.f 60 ([⟨2, 8⟩] : List Tk) = some 7 := by decide +kernel
set_option maxRecDepth 100000 in
theorem kd : term_Depths.f 60 ([⟨2, 0⟩, ⟨2, 1⟩, ⟨6, 0⟩, ⟨11, 0⟩] : List Tk) = some ([1, 1, 2, 3], 0) := by decide +kernel
set_option maxRecDepth 100000 in
theorem kpr : term_Props.f 60 ([⟨2, 0⟩, ⟨19, 0⟩, ⟨2, 3⟩, ⟨18, 0⟩] : List Tk) = some (9, 0) := by decide +kernel
set_option maxRecDepth 100000 in
theorem kpl0 : term_Plain.f 60 ([⟨2, 0⟩, ⟨2, 1⟩, ⟨14, 0⟩, ⟨6, 0⟩] : List Tk) = some (true, 0) := by decide +kernel
set_option maxRecDepth 100000 in
theorem kpl1 : term_Plain.f 60 ([⟨2, 0⟩, ⟨7, 0⟩] : List Tk) = some (false, 0) := by decide +kernel
set_option maxRecDepth 100000 in
theorem kb0 : term_Bin.f 60 15 ([⟨2, 0⟩] : List Tk) [⟨2, 1⟩] = some ([⟨2, 0⟩, ⟨2, 1⟩, ⟨15, 0⟩], 0) := by decide +kernel
set_option maxRecDepth 100000 in
theorem kb1 : term_Bin.f 60 17 ([⟨2, 0⟩] : List Tk) [⟨2, 1⟩] = some ([], 7) := by decide +kernel
set_option maxRecDepth 100000 in
theorem ku0 : term_Un.f 60 11 ([⟨2, 0⟩] : List Tk) = some ([], 2) := by decide +kernel
set_option maxRecDepth 100000 in
theorem kpu0 : term_Put.f 60 ([⟨2, 0⟩, ⟨2, 1⟩, ⟨11, 0⟩] : List Tk) 1 [⟨2, 0⟩, ⟨6, 0⟩] = some ([⟨2, 0⟩, ⟨2, 0⟩, ⟨6, 0⟩, ⟨11, 0⟩], 0) := by decide +kernel
set_option maxRecDepth 100000 in
theorem kpu1 : term_Put.f 60 ([⟨2, 0⟩, ⟨2, 1⟩, ⟨11, 0⟩] : List Tk) 3 [⟨2, 0⟩] = some ([], 2) := by decide +kernel
set_option maxRecDepth 100000 in
theorem kdeep : term_Check.f 400 (⟨2, 0⟩ :: List.replicate 63 ⟨6, 0⟩ : List Tk) = some 0 := by decide +kernel
set_option maxRecDepth 100000 in
theorem kun : term_Un.f 400 6 (⟨2, 0⟩ :: List.replicate 63 ⟨6, 0⟩ : List Tk) = some ([], 8) := by decide +kernel
set_option maxRecDepth 100000 in
theorem kmk : term_Check.f 60 (List.replicate 513 ⟨0, 0⟩ : List Tk) = some 3 := by decide +kernel
set_option maxRecDepth 100000 in
theorem ksi : rejoinderkit_SameInts.f 60 [1, 1, 2, 3] [1, 1, 2, 3] = some true := by decide +kernel
set_option maxRecDepth 100000 in
theorem kst0 : rejoinderkit_SameToks.f 60 ([⟨2, 0⟩, ⟨2, 1⟩, ⟨15, 0⟩] : List Tk) [⟨2, 0⟩, ⟨2, 1⟩, ⟨15, 0⟩] = some true := by decide +kernel
set_option maxRecDepth 100000 in
theorem kst1 : rejoinderkit_SameToks.f 60 ([⟨2, 0⟩, ⟨2, 0⟩, ⟨6, 0⟩, ⟨11, 0⟩] : List Tk) [⟨2, 0⟩, ⟨2, 0⟩, ⟨6, 0⟩, ⟨11, 0⟩] = some true := by decide +kernel
def deepL : Nat → List Tk | 0 => [⟨2, 0⟩] | n + 1 => deepL n ++ [⟨6, 0⟩]
theorem deepL_len (n : Nat) : (deepL n).length = n + 1 := by induction n with | zero => rfl | succ n ih => simp [deepL, ih]
set_option maxRecDepth 100000 in
theorem deep63 : deepL 63 = (⟨2, 0⟩ :: List.replicate 63 ⟨6, 0⟩ : List Tk) := by decide +kernel
theorem mk_toks (W : World) : (Instr.makeSlice 22 (.int .i64 513) (.int .i64 513)).run Try.prog W = .ok (.slice (some ⟨W.heap.size, 0, none⟩) 513 513) (W.alloc (.cells (madeCells #[.int .u8 0, .int .u8 0] 1026) 50)) := by
  obtain ⟨i0, hi, hzz⟩ := Option.map_eq_some_iff.1 info50
  simp only [Prod.mk.injEq] at hzz
  obtain ⟨hz0, hz1, hz2⟩ := hzz
  have hr := run_make (P := Try.prog) W 22 50 i0 _ Try.underlying22 hi hz0 .i64 .i64 513 513 (by omega) (by omega) (by rw [hz2]; omega) (by omega)
  rw [hz1] at hr
  exact hr
theorem mk_C (W : World) : Kd.C k50 (W.alloc (.cells (madeCells #[.int .u8 0, .int .u8 0] 1026) 50)) (some ⟨W.heap.size, 0, none⟩) 513 (List.replicate 513 (⟨0, 0⟩ : Tk)) := by
  refine lit_C (d := k50) (cs := madeCells #[.int .u8 0, .int .u8 0] 1026) ?_ (blk_new _ _) (List.length_replicate ..) (by decide)
  exact Kd.reps_made (z := .agg #[.int .u8 0, .int .u8 0]) (size := 2) rfl (by decide) (k50_mk _ _) 513
end Go.Proofs.Ytgemencaeocmmaa.PTerm
