/- Texts of this work merged into one file, what the law does not need left out: TextKnown6. Conditions stand in each law. -/
import Derived.Below
import Derived.Deep.Draws
import Derived.Deep.AppendLies
import Derived.Maps.AppendAt
import Derived.OwnWalk
import Derived.Laws.BytesArg
import Derived.Laws.MakeOwn
import Derived.Laws.OwnMore
import Derived.Deep.OwnRows
import Derived.Tactics
import Derived.Lib.ConvBytes
import Derived.Laws.Slices
import Derived.WalkKit
import Derived.KernelRfl
import Derived.RowKit3
import Derived.Deep.LoopGhost
import Derived.Deep.QuietTactic
import Derived.BigQuiet
import Derived.WideLaws
import Derived.Deep.DeepCutAuto
import Derived.Deep.CutBlock
import Derived.Deep.RegionHeld3
import Derived.Laws.Rows
import Derived.Lib.AppendStr
import Derived.ArgAppend
import Derived.Laws.IdiomCopy
import Derived.RowKit
import Derived.OrdersHeld
import Derived.Laws.BitsLemmas
import Derived.Laws.StructEq
import Derived.Test.YtaogoabnidbbpaaDoorProg
import Derived.Laws.Tables
import Derived.Deep.WholeRow
import Derived.Shelf.Strings.Builder1
import Derived.Shelf.Strings.BuilderF
import Derived.Shelf.Strings.BuilderK
import Derived.Shelf.Strings.Fields
import Derived.Lib.SmallJoins
import Derived.BigCall
import Derived.WalkMore
import Derived.Lib.OthersKept
import Derived.Lib.FrozenHead
import Derived.Maps.OwnOps
import Derived.Maps.Views
import Derived.WalkSmall
import Derived.Defers
import Derived.Recover
import Derived.Test.YtaogoabnidbbpaaDoorSk1
import Derived.Test.YtaogoabnidbbpaaDoorSk2
import Derived.Test.YtaogoabnidbbpaaDoorSk3
import Derived.Test.YtaogoabnidbbpaaDoorSk4
import Derived.Test.YtaogoabnidbbpaaDoorSk5
import Derived.Test.YtaogoabnidbbpaaDoorSk6
import Derived.Test.YtaogoabnidbbpaaDoorSk7
import Derived.Test.YtaogoabnidbbpaaDoorSk8
import Derived.Test.YtaogoabnidbbpaaDoorSk9
import Derived.Test.YtaogoabnidbbpaaDoorSk10
import Derived.Test.YtaogoabnidbbpaaDoorSk11
import Derived.Test.YtaogoabnidbbpaaDoorSk12
import Derived.Test.YtaogoabnidbbpaaDoorSk13
import Derived.Test.YtaogoabnidbbpaaDoorSk14
import Derived.Test.YtaogoabnidbbpaaDoorSk15
import Derived.Test.YtaogoabnidbbpaaDoorSk16
import Derived.Test.YtaogoabnidbbpaaDoorSk17
import Derived.Test.YtaogoabnidbbpaaDoorSk18
import Derived.Test.YtaogoabnidbbpaaDoorSk19
import Derived.Test.YtaogoabnidbbpaaDoorSk20
import Derived.Test.YtaogoabnidbbpaaDoorSk21
import Derived.Test.YtaogoabnidbbpaaDoorSk22
import Derived.Test.YtaogoabnidbbpaaDoorSk23
import Derived.Test.YtaogoabnidbbpaaDoorSk24
import Derived.Test.YtaogoabnidbbpaaDoorSk25
import Derived.Test.YtaogoabnidbbpaaDoorSk26
import Derived.Test.YtaogoabnidbbpaaDoorSk27
import Derived.Test.YtaogoabnidbbpaaDoorSk28
import Derived.Test.YtaogoabnidbbpaaDoorSk29
import Derived.Test.YtaogoabnidbbpaaDoorSk30
/-! TextKnown6 -/
namespace Go.Proofs.YtaogoabnidbbpaaDoor.PText
open Go.RowKit Go.Proofs.YtaogoabnidbbpaaDoorW.PrintWords Go.Proofs.YtaogoabnidbbpaaDoorW.PrintLast Go.Proofs.YtaogoabnidbbpaaDoorW.PrintMore Go.Proofs.YtaogoabnidbbpaaDoorW.Aid
set_option linter.unusedVariables false
def tx6 : List ByteArray := [⟨#[112, 32, 85, 32, 113, 32, 38, 32, 112]⟩, ⟨#[40, 112, 32, 38, 32, 113, 41, 32, 85, 32, 112]⟩, ⟨#[112, 32, 45, 62, 32, 113, 32, 45, 62, 32, 112]⟩, ⟨#[40, 112, 32, 45, 62, 32, 113, 41, 32, 45, 62, 32, 112]⟩,
  ⟨#[60, 123, 112, 125, 32, 59, 32, 40, 63, 113, 32, 43, 32, 123, 116, 114, 117, 101, 125, 41, 42, 62, 32, 108, 97, 115, 116]⟩, ⟨#[33, 40, 112, 32, 38, 32, 113, 41]⟩, ⟨#[33, 88, 32, 112]⟩]
def ks6 : List (List S55) := [[⟨2, 0⟩, ⟨2, 1⟩, ⟨15, 0⟩, ⟨2, 0⟩, ⟨11, 0⟩], [⟨2, 0⟩, ⟨2, 1⟩, ⟨11, 0⟩, ⟨2, 0⟩, ⟨15, 0⟩], [⟨2, 0⟩, ⟨2, 1⟩, ⟨2, 0⟩, ⟨13, 0⟩, ⟨13, 0⟩], [⟨2, 0⟩, ⟨2, 1⟩, ⟨13, 0⟩, ⟨2, 0⟩, ⟨13, 0⟩],
  [⟨2, 0⟩, ⟨19, 0⟩, ⟨2, 1⟩, ⟨20, 0⟩, ⟨0, 0⟩, ⟨19, 0⟩, ⟨21, 0⟩, ⟨23, 0⟩, ⟨22, 0⟩, ⟨3, 0⟩, ⟨17, 0⟩], [⟨2, 0⟩, ⟨2, 1⟩, ⟨11, 0⟩, ⟨6, 0⟩], [⟨2, 0⟩, ⟨7, 0⟩, ⟨6, 0⟩]]
set_option maxRecDepth 100000 in
theorem tx6_now : ∀ i : Fin 7, show_Formula.f 100 nm5 (ks6.getD i.val []) = some (tx6.getD i.val ⟨#[]⟩, 0) := by decide +kernel
set_option maxRecDepth 100000 in
theorem more6_now : show_Formula.f 100 nm5 [⟨5, 0⟩] = some (⟨#[]⟩, 160) := by decide +kernel
set_option maxRecDepth 100000 in
theorem out6_now : show_Formula.f 100 nm5 [⟨2, 2⟩] = some (⟨#[]⟩, 2) := by decide +kernel
set_option maxRecDepth 100000 in
theorem two6_now : show_Formula.f 100 nm5 [⟨2, 0⟩, ⟨11, 0⟩] = some (⟨#[]⟩, 7) := by decide +kernel
set_option maxRecDepth 100000 in
theorem path6_now : show_Path.f 100 nm5 [⟨2, 0⟩, ⟨19, 0⟩, ⟨23, 0⟩, ⟨23, 0⟩] = some (⟨#[123, 112, 125, 42, 42]⟩, 0) := by decide +kernel
set_option maxRecDepth 100000 in
theorem awake6_now : rejoinderlaw06_awake.f 100 = some true := by decide +kernel
def objs6 (n : Nat) : List Obj := [strsO nm5, .cells #[.int .u8 2, .int .u8 0] 55 (0, 0), .cells #[.int .u8 2, .int .u8 1] 55 (0, 0),
  toksO (ks6.getD 0 []), toksO (ks6.getD 1 []), toksO (ks6.getD 2 []), toksO (ks6.getD 3 []), toksO (ks6.getD 4 []), toksO (ks6.getD 5 []), toksO (ks6.getD 6 []),
  .cells #[.slice (some ⟨n + 3, 0, none⟩) 5 5, .slice (some ⟨n + 4, 0, none⟩) 5 5, .slice (some ⟨n + 5, 0, none⟩) 5 5, .slice (some ⟨n + 6, 0, none⟩) 5 5, .slice (some ⟨n + 7, 0, none⟩) 11 11, .slice (some ⟨n + 8, 0, none⟩) 4 4, .slice (some ⟨n + 9, 0, none⟩) 3 3] 46 (0, 0), strsO tx6]
def KF6 (w W : World) : Prop := Below w.heap.size w W ∧ ∀ j o, (objs6 w.heap.size)[j]? = some o → W.heap[w.heap.size + j]? = some o
theorem KF6.below {w W W2 : World} (h : KF6 w W) (hb : Below W.heap.size W W2) : KF6 w W2 := ⟨below_step h.1 hb, fun j o ho => blk_below (h.2 j o ho) hb⟩
theorem KF6.start (w : World) : KF6 w (allocs w (objs6 w.heap.size)) := ⟨allocs_below _ _ _ (Below.refl _ _), fun j o ho => allocs_get _ w j o ho⟩
theorem KF6.alloc {w W : World} (h : KF6 w W) (o : Obj) : KF6 w (W.alloc o) := h.below (below_alloc (Below.refl _ _) o)
set_option maxHeartbeats 8000000 in
set_option maxRecDepth 100000 in
theorem law6_known (w : World) (HT : Aside0 (Laid w)) : Calls Tryd.prog 11 #[] w fun e w' => e = .returned (.bool true) ∧ Below w.heap.size w w' := by
  go_enter Tryd.func11, Tryd.ntmps11
  go_wp2_with fail
  go_loopg [6] 8 (fun kq v6 w' => ∃ i : Nat, v6 = .int .i64 (i : Int) ∧ Aside0 (i + kq = 8 ∧ i ≤ 7) ∧ Aside0 (KF6 w w'))
  case atStart => exact ⟨0, rfl, ⟨rfl, by decide⟩, ⟨KF6.start w⟩⟩
  case round =>
    obtain ⟨i, rfl, hi, HK⟩ := hrel
    cases gk with
    | zero => have := hi.out; omega
    | succ k1 =>
      by_cases hil : i < 7
      · have HI6 := Aside0.mk hil
        have c1 := eq_true hil
        have c2 := decide_eq_true hil
        have c3 := eq_true (show (i : Int) < 7 by omega)
        have c4 := decide_eq_true (show (i : Int) < 7 by omega)
        have c5 := eq_true (show (0 : Int) ≤ (i : Int) by omega)
        obtain ⟨wt, hwt⟩ : ∃ wt, wt = ks6.getD i [] := ⟨_, rfl⟩
        obtain ⟨tx, htx⟩ : ∃ tx, tx = tx6.getD i ⟨#[]⟩ := ⟨_, rfl⟩
        have HF : Aside0 (show_Formula.f 100 nm5 wt = some (tx, 0)) := ⟨by rw [htx, hwt]; exact tx6_now ⟨i, hil⟩⟩
        have hwl : wt.length ≤ 11 := by rw [hwt]; match i, hil with | 0, _ => decide | 1, _ => decide | 2, _ => decide | 3, _ => decide | 4, _ => decide | 5, _ => decide | 6, _ => decide
        have hw : wr.cell? ⟨w.heap.size + 10, i, none⟩ = some (.slice (some ⟨w.heap.size + (3 + i), 0, none⟩) wt.length wt.length) := by
          rw [hwt]
          refine (blk_cell (HK.out.2 10 _ rfl) i).trans ?_
          match i, hil with | 0, _ => rfl | 1, _ => rfl | 2, _ => rfl | 3, _ => rfl | 4, _ => rfl | 5, _ => rfl | 6, _ => rfl
        have HW : Aside0 (wr.heap[w.heap.size + (3 + i)]? = some (toksO wt)) := ⟨by
          rw [hwt]
          match i, hil with | 0, _ => exact HK.out.2 3 _ rfl | 1, _ => exact HK.out.2 4 _ rfl | 2, _ => exact HK.out.2 5 _ rfl | 3, _ => exact HK.out.2 6 _ rfl | 4, _ => exact HK.out.2 7 _ rfl | 5, _ => exact HK.out.2 8 _ rfl | 6, _ => exact HK.out.2 9 _ rfl⟩
        have HTX := Aside0.mk htx
        have HWL := Aside0.mk hwl
        clear htx hwt hil hwl
        go_wp2_with fail
        refine (show_Formula.calls 100 (some ⟨w.heap.size, 0, none⟩) 2 nm5 (some ⟨w.heap.size + (3 + i), 0, none⟩) wt.length wt tx 0 _ (strs_C (by decide) (HK.out.2 0 (strsO nm5) rfl)) (by decide) (toks_C (by have := HWL.out; omega) HW.out) (Nat.le_refl _) HF.out).mono ?_
        rintro e w1 ⟨rfl, hb⟩
        have HK1 := Aside0.mk (KF6.below HK.out hb)
        clear hb HK hw
        have ht : w1.cell? ⟨w.heap.size + 11, i, none⟩ = some (.string tx) := by
          rw [HTX.out]
          refine (blk_cell (HK1.out.2 11 (strsO tx6) rfl) i).trans ?_
          have := HI6.out
          match i, this with | 0, _ => rfl | 1, _ => rfl | 2, _ => rfl | 3, _ => rfl | 4, _ => rfl | 5, _ => rfl | 6, _ => rfl
        go_wp2_with fail
        go_roundg k1
        case measure => exact Nat.lt_succ_self _
        case rel => exact ⟨i + 1, by show Value.int .i64 (wrap64 _) = _; congr 1; have := HI6.out; unfold wrap64; omega, ⟨by have := hi.out; omega, by have := HI6.out; omega⟩, HK1⟩
      · have hi7 : i = 7 := by have := hi.out; omega
        subst hi7
        clear hil hi
        go_wp2_with fail
        refine (show_Formula.calls 100 (some ⟨w.heap.size, 0, none⟩) 2 nm5 (some ⟨wr.heap.size, 0, none⟩) 1 [⟨5, 0⟩] ⟨#[]⟩ 160 _ (strs_C (by decide) ((KF6.alloc HK.out _).2 0 (strsO nm5) rfl)) (by decide) (toks_C (by decide) (show _ = some (toksO [⟨5, 0⟩]) from blk_new wr _)) (by decide) more6_now).mono ?_
        rintro e w1 ⟨rfl, hb⟩
        have HK1 := Aside0.mk (KF6.below (KF6.alloc HK.out _) hb)
        clear hb HK
        go_wp2_with fail
        refine (show_Formula.calls 100 (some ⟨w.heap.size, 0, none⟩) 2 nm5 (some ⟨w1.heap.size, 0, none⟩) 1 [⟨2, 2⟩] ⟨#[]⟩ 2 _ (strs_C (by decide) ((KF6.alloc HK1.out _).2 0 (strsO nm5) rfl)) (by decide) (toks_C (by decide) (show _ = some (toksO [⟨2, 2⟩]) from blk_new w1 _)) (by decide) out6_now).mono ?_
        rintro e w2 ⟨rfl, hb⟩
        have HK2 := Aside0.mk (KF6.below (KF6.alloc HK1.out _) hb)
        clear hb HK1
        have p0 : w2.cell? ⟨w.heap.size + 1, 0, none⟩ = some (.int .u8 2) := (blk_cell (show w2.heap[w.heap.size + 1]? = some (.cells _ _ _) from HK2.out.2 1 _ rfl) 0).trans rfl
        have p1 : w2.cell? ⟨w.heap.size + 1, 1, none⟩ = some (.int .u8 0) := (blk_cell (show w2.heap[w.heap.size + 1]? = some (.cells _ _ _) from HK2.out.2 1 _ rfl) 1).trans rfl
        go_wp2_with fail
        refine (show_Formula.calls 100 (some ⟨w.heap.size, 0, none⟩) 2 nm5 (some ⟨w2.heap.size, 0, none⟩) 2 [⟨2, 0⟩, ⟨11, 0⟩] ⟨#[]⟩ 7 _ (strs_C (by decide) ((KF6.alloc HK2.out _).2 0 (strsO nm5) rfl)) (by decide) (toks_C (by decide) (show _ = some (toksO [⟨2, 0⟩, ⟨11, 0⟩]) from blk_new w2 _)) (by decide) two6_now).mono ?_
        rintro e w3 ⟨rfl, hb⟩
        have HK3 := Aside0.mk (KF6.below (KF6.alloc HK2.out _) hb)
        clear hb HK2 p0 p1
        have p0 : w3.cell? ⟨w.heap.size + 1, 0, none⟩ = some (.int .u8 2) := (blk_cell (show w3.heap[w.heap.size + 1]? = some (.cells _ _ _) from HK3.out.2 1 _ rfl) 0).trans rfl
        have p1 : w3.cell? ⟨w.heap.size + 1, 1, none⟩ = some (.int .u8 0) := (blk_cell (show w3.heap[w.heap.size + 1]? = some (.cells _ _ _) from HK3.out.2 1 _ rfl) 1).trans rfl
        go_wp2_with fail
        refine (show_Path.calls 100 (some ⟨w.heap.size, 0, none⟩) 2 nm5 (some ⟨w3.heap.size, 0, none⟩) 4 [⟨2, 0⟩, ⟨19, 0⟩, ⟨23, 0⟩, ⟨23, 0⟩] ⟨#[123, 112, 125, 42, 42]⟩ 0 _ (strs_C (by decide) ((KF6.alloc HK3.out _).2 0 (strsO nm5) rfl)) (by decide) (toks_C (by decide) (show _ = some (toksO [⟨2, 0⟩, ⟨19, 0⟩, ⟨23, 0⟩, ⟨23, 0⟩]) from blk_new w3 _)) (by decide) path6_now).mono ?_
        rintro e w4 ⟨rfl, hb⟩
        have HK4 := Aside0.mk (KF6.below (KF6.alloc HK3.out _) hb)
        clear hb HK3 p0 p1
        go_wp2_with fail
        refine (rejoinderlaw06_awake.calls 100 true _ awake6_now ⟨Laid.later HT.out HK4.out.1⟩).mono ?_
        rintro e w5 ⟨rfl, hb⟩
        have HK5 := Aside0.mk (KF6.below HK4.out hb)
        clear hb HK4
        go_wp2_with fail
        go_ret
        exact ⟨rfl, HK5.out.1⟩
end Go.Proofs.YtaogoabnidbbpaaDoor.PText
