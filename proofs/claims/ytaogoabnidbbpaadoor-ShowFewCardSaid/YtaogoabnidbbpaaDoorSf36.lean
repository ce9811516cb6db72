/- No pair of brackets of what is shown can be left out: whatever the names and the tokens; tied to the program's own tables. -/
import Derived.Below
import Derived.Deep.Draws
import Derived.Deep.AppendLies
import Derived.Maps.AppendAt
import Derived.OwnWalk
import Derived.Laws.BytesArg
import Derived.Laws.MakeOwn
import Derived.Laws.OwnMore
import Derived.Deep.OwnRows
import Derived.Tactics
import Derived.Lib.ConvBytes
import Derived.Laws.Slices
import Derived.WalkKit
import Derived.KernelRfl
import Derived.RowKit3
import Derived.Deep.LoopGhost
import Derived.Deep.QuietTactic
import Derived.BigQuiet
import Derived.WideLaws
import Derived.Deep.DeepCutAuto
import Derived.Deep.CutBlock
import Derived.Deep.RegionHeld3
import Derived.Laws.Rows
import Derived.Lib.AppendStr
import Derived.ArgAppend
import Derived.Laws.IdiomCopy
import Derived.RowKit
import Derived.OrdersHeld
import Derived.Laws.BitsLemmas
import Derived.Laws.StructEq
import Derived.Test.YtaogoabnidbbpaaDoorProg
import Derived.Shelf.Strings.Builder1
import Derived.Shelf.Strings.BuilderF
import Derived.Shelf.Strings.BuilderK
import Derived.Shelf.Strings.Fields
import Derived.Lib.SmallJoins
import Derived.BigCall
import Derived.WalkMore
import Derived.Lib.OthersKept
import Derived.Lib.FrozenHead
import Derived.WalkSmall
import Derived.Maps.OwnOps
import Derived.Maps.Views
import Derived.Laws.Tables
import Derived.Deep.WholeRow
import Derived.Defers
import Derived.Recover
import Derived.Test.YtaogoabnidbbpaaDoorRows
import Derived.Deep.Strs
import Derived.OpenShut
import Derived.WideShapes
import Derived.Deep.SlicePairs
import Derived.Test.YtaogoabnidbbpaaDoorCards
import Derived.Test.YtaogoabnidbbpaaDoorTie
import Derived.ShutString
import Derived.ChangeOld
import Derived.SizedLaws
import Derived.ProofKit
import Derived.Handy
import Derived.Lay
import Derived.Stop.LaidErr
import Derived.SevenTiedAt
import Derived.ChangeMaps5
import Derived.Test.YtaogoabnidbbpaaDoorSf1
import Derived.Test.YtaogoabnidbbpaaDoorSf2
import Derived.Test.YtaogoabnidbbpaaDoorSf3
import Derived.Test.YtaogoabnidbbpaaDoorSf4
import Derived.Test.YtaogoabnidbbpaaDoorSf5
import Derived.Test.YtaogoabnidbbpaaDoorSf6
import Derived.Test.YtaogoabnidbbpaaDoorSf7
import Derived.Test.YtaogoabnidbbpaaDoorSf8
import Derived.Test.YtaogoabnidbbpaaDoorSf9
import Derived.Test.YtaogoabnidbbpaaDoorSf10
import Derived.Test.YtaogoabnidbbpaaDoorSf11
import Derived.Test.YtaogoabnidbbpaaDoorSf12
import Derived.Test.YtaogoabnidbbpaaDoorSf13
import Derived.Test.YtaogoabnidbbpaaDoorSf14
import Derived.Test.YtaogoabnidbbpaaDoorSf15
import Derived.Test.YtaogoabnidbbpaaDoorSf16
import Derived.Test.YtaogoabnidbbpaaDoorSf17
import Derived.Test.YtaogoabnidbbpaaDoorSf18
import Derived.Test.YtaogoabnidbbpaaDoorSf19
import Derived.Test.YtaogoabnidbbpaaDoorSf20
import Derived.Test.YtaogoabnidbbpaaDoorSf21
import Derived.Test.YtaogoabnidbbpaaDoorSf22
import Derived.Test.YtaogoabnidbbpaaDoorSf23
import Derived.Test.YtaogoabnidbbpaaDoorSf24
import Derived.Test.YtaogoabnidbbpaaDoorSf25
import Derived.Test.YtaogoabnidbbpaaDoorSf26
import Derived.Test.YtaogoabnidbbpaaDoorSf27
import Derived.Test.YtaogoabnidbbpaaDoorSf28
import Derived.Test.YtaogoabnidbbpaaDoorSf29
import Derived.Test.YtaogoabnidbbpaaDoorSf30
import Derived.Test.YtaogoabnidbbpaaDoorSf31
import Derived.Test.YtaogoabnidbbpaaDoorSf32
import Derived.Test.YtaogoabnidbbpaaDoorSf33
import Derived.Test.YtaogoabnidbbpaaDoorSf34
import Derived.Test.YtaogoabnidbbpaaDoorSf35
/-! TextShowFewRow -/
namespace Go.Proofs.YtaogoabnidbbpaaDoor.showFew
open Go.ChangeShapes Go.WideShapes Go.ChangeAt Go.RowKit Go.Joins
set_option linter.unusedVariables false
abbrev laid : List (String × DataW Unit) := [("unicode.White_Space", Rows.laid_unicode_White_Space), ("strings.asciiSpace", Rows.laid_strings_asciiSpace)]
theorem laidOut : laidOutB Tryd.prog = true := by kernel_rfl
theorem own : ownKnob Tryd.prog.godebug = none := by kernel_rfl
set_option maxRecDepth 100000 in
theorem head_is : (Rows.laid_strings_asciiSpace : DataW Unit) = Lib.tabData .u8 Lib.asciiSpaceTab := by rfl
/-- What the row's condition gives a walk: the table. -/
theorem table {W : World} (h : laidMetH Tryd.prog laid W) : PText.Laid W := by
  rw [MakeChecks.laidMetH_plain _ _ _ (by kernel_rfl)] at h
  have h2 := h.tail
  exact Lib.tabIs_of_head (g := 0) (t := 119) (e := 5) (n := 256) (by kernel_rfl) (by kernel_rfl) Tryd.underlying119 Tryd.underlying5 (by kernel_rfl) (by kernel_rfl) (rest := []) (by rw [← head_is]; exact h2)
set_option maxRecDepth 100000 in
theorem lifted (os : Os) (started : os.Started) (H : Type) (enc : TypeId × Value → H) :
    ReturnsInHanded {} Tryd.checked os 10 .any (fun w args => (Rows.showFewSpec.pre enc Tryd.prog Tryd.f10 [] false w args ∧ laidMetH Tryd.prog laid w) ∧ sizedMet enc Tryd.prog Tryd.f10 (OpenSpec.ofChange Rows.showFewSpec) false w args)
      (Rows.showFewSpec.post enc Tryd.prog Tryd.f10 false true false false) := by
  refine returnsInHanded_of_change_and (C := Tryd.checked) (X := fun w _ => laidMetH Tryd.prog laid w) (fun _ _ _ hh h => h.of_heap hh) own started (by kernel_rfl) Tryd.func10
    (ChangeSpec.witness_shaped (enc := enc) (C := Tryd.checked) (os := os) (X := fun w _ => laidMetH Tryd.prog laid w) false (World.laidAll Tryd.prog os laid) #[.slice none 0 0, .slice none 0 0] 8 (World.laidAll_os _ _ _)
      (World.shaped_of_ZipB (by kernel_rfl) (by kernel_rfl)) (by kernel_rfl) (by kernel_rfl) (by kernel_rfl)
      (by rw [MakeChecks.laidMetH_plain _ _ _ (by kernel_rfl)]; exact laidMet_laidAll _ (by kernel_rfl) (by kernel_rfl))) ?_
  intro W base args ds gs before hval0 hW _ _ hL _
  have hval : ∀ (j : Nat) t v, Tryd.f10.params[j]? = some t → args[j]? = some v → Value.okWide Tryd.prog W .any base t v := hval0
  have hW' := hW
  obtain ⟨p, q, hA0, hV, rfl, hfz, hnd⟩ := hW
  have hA : DataW.TrodAll enc Tryd.prog W 0 (fun _ => true) true Tryd.f10.params.toList args.toList ds p := hA0
  rw [Tryd.params10] at hA hval
  obtain ⟨v0, vs0, d0, ds0, p0, q0, hargs, rfl, rfl, h0, r0⟩ := trodAll_cons hA
  obtain ⟨v1, vs1, d1, ds1, p1, q1, rfl, rfl, rfl, h1, r1⟩ := trodAll_cons r0
  obtain ⟨rfl, rfl, rfl⟩ := trodAll_nil r1
  obtain rfl : args = #[v0, v1] := by cases args; simp_all
  obtain ⟨a0, len0, cap0, rfl⟩ := okWide_slice Tryd.underlying44 (hval 0 44 v0 rfl rfl)
  have k0 := h0
  have lt0 : ∀ x ∈ p0, x.block < W.heap.size := by obtain ⟨m, hm⟩ := k0; exact DataW.trod_lt m _ _ _ hm
  obtain ⟨ts0, tl0, tc0, tcap0⟩ := PText.names_open h0
  obtain ⟨a1, len1, cap1, rfl⟩ := okWide_slice Tryd.underlying46 (hval 1 46 v1 rfl rfl)
  have k1 := h1
  have lt1 : ∀ x ∈ p1, x.block < W.heap.size := by obtain ⟨m, hm⟩ := k1; exact DataW.trod_lt m _ _ _ hm
  obtain ⟨ts1, tl1, tc1, tcap1, tw1⟩ := PText.toks_open h1
  obtain ⟨rfl, rfl⟩ := trodVars_none hV
  simp only [List.append_nil] at hW'
  have hok : ∀ t ∈ ts1, PText.okT t = true := fun t ht => PText.okT_wf (tw1 t ht).1 (tw1 t ht).2
  obtain ⟨k, hk⟩ := (PText.few_law ts0 ts1 hok).rounds
  have hlaw := PText.rejoinderlaw06_ShowFew.calls k a0 cap0 ts0 a1 cap1 ts1 true W (by rw [tl0]; exact tc0) (by rw [tl0]; exact tcap0) (by rw [tl1]; exact tc1) (by rw [tl1]; exact tcap1) hk ⟨table hL⟩
  rw [tl0, tl1] at hlaw
  refine hlaw.mono fun e W' ⟨he, bel⟩ => ?_
  subst he
  exact ⟨_, rfl, _, _, _, [], _, [], hW', trodAll_mk1 (shut_bool Tryd.underlying4 _), (trodAll_cons_mk (Below.trod laidOut (by kernel_rfl) (of_decide_eq_true (by kernel_rfl)) k0 bel lt0) (trodAll_cons_mk (Below.trod laidOut (by kernel_rfl) (of_decide_eq_true (by kernel_rfl)) k1 bel lt1) trodAll_mk0)), rfl, bel.frame _, fun h => by cases h⟩
theorem over : Rows.ShowFewSaid :=
  OpenClaim.holds_of_wide 10 Tryd.f10 rfl rfl rfl rfl rfl rfl rfl ⟨rfl, rfl, rfl, rfl, rfl⟩ rfl rfl rfl rfl rfl (by kernel_rfl) Tryd.func10 (by kernel_rfl)
    (of_decide_eq_true (by kernel_rfl)) (by unfold Func.isWrapper; first | (rw [if_pos (by decide +kernel)]; kernel_rfl) | (rw [if_neg (by decide +kernel)]; exact ⟨rfl, rfl⟩))
    (fun os started H enc _ => lifted os started H enc)
theorem proved : Rows.ShowFewCardSaid :=
  Claim7.holds_tied_plain_at .later [] [.listed, .data] true (true, "1f854cd33aba80ae19e5c7147fbdaedbe1721b485b58866a5f592069681eca9e") true
    over (fun _ h => by cases h) (by kernel_rfl) (fun _ h => by cases h) showFew_row_tie rfl ⟨rfl, rfl⟩ (by kernel_rfl) rfl
    (fun f fn hf hfn => by
      obtain rfl : f = 10 := Option.some.inj ((show Tryd.prog.funcNamed "rejoinder/rejoinderlaw06.ShowFew" = some 10 by kernel_rfl).symm.trans hf) |>.symm
      obtain rfl : fn = Tryd.f10 := (Option.some.inj (Tryd.func10.symm.trans hfn)).symm
      exact ⟨by kernel_rfl, fun j t ht => by
        rw [Tryd.params10] at ht
        have hm : t ∈ ([44, 46] : List Nat) := by simpa using Array.mem_of_getElem? ht
        have hall : (([44, 46] : List Nat).all fun u => !Tryd.prog.wantsStandIn u) = true := by kernel_rfl
        exact (show Tryd.prog.wantsStandIn t = false by simpa using List.all_eq_true.1 hall t hm)⟩)
    (by kernel_rfl)
#print axioms proved
end Go.Proofs.YtaogoabnidbbpaaDoor.showFew
