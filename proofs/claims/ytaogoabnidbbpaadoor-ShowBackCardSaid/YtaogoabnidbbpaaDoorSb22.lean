/- Texts of this work merged into one file, what the law does not need left out: TextParts. Conditions stand in each law. -/
import Derived.Below
import Derived.Deep.Draws
import Derived.Deep.AppendLies
import Derived.Maps.AppendAt
import Derived.OwnWalk
import Derived.Laws.BytesArg
import Derived.Laws.MakeOwn
import Derived.Laws.OwnMore
import Derived.Deep.OwnRows
import Derived.Tactics
import Derived.Lib.ConvBytes
import Derived.Laws.Slices
import Derived.WalkKit
import Derived.KernelRfl
import Derived.RowKit3
import Derived.Deep.LoopGhost
import Derived.Deep.QuietTactic
import Derived.BigQuiet
import Derived.WideLaws
import Derived.Deep.DeepCutAuto
import Derived.Deep.CutBlock
import Derived.Deep.RegionHeld3
import Derived.Laws.Rows
import Derived.Lib.AppendStr
import Derived.ArgAppend
import Derived.Laws.IdiomCopy
import Derived.RowKit
import Derived.OrdersHeld
import Derived.Laws.BitsLemmas
import Derived.Laws.StructEq
import Derived.Test.YtaogoabnidbbpaaDoorProg
import Derived.Shelf.Strings.Builder1
import Derived.Shelf.Strings.BuilderF
import Derived.Shelf.Strings.BuilderK
import Derived.Shelf.Strings.Fields
import Derived.Lib.SmallJoins
import Derived.BigCall
import Derived.WalkMore
import Derived.Lib.OthersKept
import Derived.Lib.FrozenHead
import Derived.WalkSmall
import Derived.Maps.OwnOps
import Derived.Maps.Views
import Derived.Laws.Tables
import Derived.Deep.WholeRow
import Derived.Test.YtaogoabnidbbpaaDoorSb1
import Derived.Test.YtaogoabnidbbpaaDoorSb2
import Derived.Test.YtaogoabnidbbpaaDoorSb3
import Derived.Test.YtaogoabnidbbpaaDoorSb4
import Derived.Test.YtaogoabnidbbpaaDoorSb5
import Derived.Test.YtaogoabnidbbpaaDoorSb6
import Derived.Test.YtaogoabnidbbpaaDoorSb7
import Derived.Test.YtaogoabnidbbpaaDoorSb8
import Derived.Test.YtaogoabnidbbpaaDoorSb9
import Derived.Test.YtaogoabnidbbpaaDoorSb10
import Derived.Test.YtaogoabnidbbpaaDoorSb11
import Derived.Test.YtaogoabnidbbpaaDoorSb12
import Derived.Test.YtaogoabnidbbpaaDoorSb13
import Derived.Test.YtaogoabnidbbpaaDoorSb14
import Derived.Test.YtaogoabnidbbpaaDoorSb15
import Derived.Test.YtaogoabnidbbpaaDoorSb16
import Derived.Test.YtaogoabnidbbpaaDoorSb17
import Derived.Test.YtaogoabnidbbpaaDoorSb18
import Derived.Test.YtaogoabnidbbpaaDoorSb19
import Derived.Test.YtaogoabnidbbpaaDoorSb20
import Derived.Test.YtaogoabnidbbpaaDoorSb21
/-! TextParts -/
namespace Go.Proofs.YtaogoabnidbbpaaDoor.PText
open Go.RowKit Go.Proofs.YtaogoabnidbbpaaDoorW.PrintWords Go.Proofs.YtaogoabnidbbpaaDoorW.PrintLast Go.Proofs.YtaogoabnidbbpaaDoorW.PrintMore
set_option linter.unusedVariables false
def PartF (names : List ByteArray) (b : List Tk) (x : S117) : Prop := ∃ ws, LexR x.f0.data.toList ws ∧ GoodF names x.f1 b ws ∧ 1 ≤ x.f1
def PartP (names : List ByteArray) (b : List Tk) (x : S117) : Prop := ∃ ws, LexR x.f0.data.toList ws ∧ GoodP names x.f1 b ws ∧ 1 ≤ x.f1
theorem bs_app (a b : ByteArray) : (a ++ b).data.toList = a.data.toList ++ b.data.toList := by simp
theorem lex_brackets {s : Bs} {ws : List Sy} (h : LexR s ws) : LexR (([40] ++ s) ++ [41]) ((0, [40]) :: (ws ++ [(0, [41])])) :=
  lex_one (by decide) (lex_app (.inr ⟨41, [], rfl, by decide⟩) h (lex_one (by decide) .nil))
theorem withinF {names : List ByteArray} {b : List Tk} {x : S117} (h : PartF names b x) {m : Nat} (h1 : 1 ≤ m) (h6 : m ≤ 6) : ∃ ws, LexR (withinP x m).data.toList ws ∧ LvF names m b ws := by
  obtain ⟨ws, hx, hg, hn⟩ := h
  unfold withinP
  by_cases c : x.f1 < (m : Int)
  · rw [if_pos c]
    refine ⟨_, by rw [bs_app, bs_app]; exact lex_brackets hx, ?_⟩
    exact good_of (n := m) (k := 6) (by decide) (by decide) (.inr rfl) (mk_paren (hg 1 (by decide) (by decide) hn)) m h1 h6 (Int.le_refl _)
  · rw [if_neg c]
    exact ⟨ws, hx, hg m h1 h6 (by omega)⟩
theorem withinPP {names : List ByteArray} {b : List Tk} {x : S117} (h : PartP names b x) {m : Nat} (h1 : 1 ≤ m) (h4 : m ≤ 4) : ∃ ws, LexR (withinP x m).data.toList ws ∧ LvP names m b ws := by
  obtain ⟨ws, hx, hg, hn⟩ := h
  unfold withinP
  by_cases c : x.f1 < (m : Int)
  · rw [if_pos c]
    refine ⟨_, by rw [bs_app, bs_app]; exact lex_brackets hx, ?_⟩
    exact goodP_of (n := m) (k := 4) (by decide) (by decide) (by omega) (mk_group (hg 1 (by decide) (by decide) hn)) m h1 h4 (Int.le_refl _)
  · rw [if_neg c]
    exact ⟨ws, hx, hg m h1 h4 (by omega)⟩
section
variable {names : List ByteArray} {a b : List Tk} {x y : S117}
theorem p_bin {M : ByteArray} {t : Bs} {k : Int} {sg : Bs} {op : Int} {la lb lv : Nat} (hM : M.data.toList = 32 :: t) (hlex : ∀ {s : Bs} {ws : List Sy}, LexR s ws → LexR (M.data.toList ++ s) ((k, sg) :: ws))
    (hmk : ∀ {a b : List Tk} {wa wb : List Sy}, LvF names la a wa → LvF names lb b wb → LvF names lv (a ++ b ++ [(⟨op, 0⟩ : Tk)]) (wa ++ (k, sg) :: wb)) (h1 : 1 ≤ la ∧ la ≤ 6) (h2 : 1 ≤ lb ∧ lb ≤ 6) (h3 : 1 ≤ lv ∧ lv ≤ 6)
    (hy : PartF names a y) (hx : PartF names b x) : PartF names (a ++ b ++ [(⟨op, 0⟩ : Tk)]) ⟨(withinP y la ++ M) ++ withinP x lb, lv⟩ := by
  obtain ⟨wy, ly, vy⟩ := withinF hy h1.1 h1.2
  obtain ⟨wx, lx, vx⟩ := withinF hx h2.1 h2.2
  refine ⟨_, ?_, good_of (k := lv) h3.1 h3.2 (.inl (Int.le_refl _)) (hmk vy vx), by show (1 : Int) ≤ (lv : Int); omega⟩
  show LexR (((withinP y la ++ M) ++ withinP x lb).data.toList) _
  rw [bs_app, bs_app, List.append_assoc]
  exact lex_app (.inr ⟨32, t ++ (withinP x lb).data.toList, by rw [hM]; rfl, by decide⟩) ly (hlex lx)
theorem p_binP {M : ByteArray} {t : Bs} {k : Int} {sg : Bs} {op : Int} {la lb lv : Nat} (hM : M.data.toList = 32 :: t) (hlex : ∀ {s : Bs} {ws : List Sy}, LexR s ws → LexR (M.data.toList ++ s) ((k, sg) :: ws))
    (hmk : ∀ {a b : List Tk} {wa wb : List Sy}, LvP names la a wa → LvP names lb b wb → LvP names lv (a ++ b ++ [(⟨op, 0⟩ : Tk)]) (wa ++ (k, sg) :: wb)) (h1 : 1 ≤ la ∧ la ≤ 4) (h2 : 1 ≤ lb ∧ lb ≤ 4) (h3 : 1 ≤ lv ∧ lv ≤ 4)
    (hy : PartP names a y) (hx : PartP names b x) : PartP names (a ++ b ++ [(⟨op, 0⟩ : Tk)]) ⟨(withinP y la ++ M) ++ withinP x lb, lv⟩ := by
  obtain ⟨wy, ly, vy⟩ := withinPP hy h1.1 h1.2
  obtain ⟨wx, lx, vx⟩ := withinPP hx h2.1 h2.2
  refine ⟨_, ?_, goodP_of (k := lv) h3.1 h3.2 (Int.le_refl _) (hmk vy vx), by show (1 : Int) ≤ (lv : Int); omega⟩
  show LexR (((withinP y la ++ M) ++ withinP x lb).data.toList) _
  rw [bs_app, bs_app, List.append_assoc]
  exact lex_app (.inr ⟨32, t ++ (withinP x lb).data.toList, by rw [hM]; rfl, by decide⟩) ly (hlex lx)
theorem sp_word {w s : Bs} {ws : List Sy} (hw : w ≠ []) (hall : w.all wordB = true) (hs : (sortL w).2 = true) (h : LexR s ws) : LexR (w ++ 32 :: s) (((sortL w).1, w) :: ws) :=
  lex_word hw hall hs (by rintro c t e; cases e; decide) (.blank h)
theorem p_and (hy : PartF names a y) (hx : PartF names b x) : PartF names (a ++ b ++ [(⟨11, 0⟩ : Tk)]) ⟨(withinP y 4 ++ ⟨#[32, 38, 32]⟩) ++ withinP x 5, 4⟩ :=
  p_bin (M := ⟨#[32, 38, 32]⟩) (t := [38, 32]) (k := 0) (sg := [38]) (la := 4) (lb := 5) (lv := 4) rfl (fun h => .blank (lex_one (by decide) (.blank h))) (fun h1 h2 => mk_and h1 h2) (by decide) (by decide) (by decide) hy hx
theorem p_or (hy : PartF names a y) (hx : PartF names b x) : PartF names (a ++ b ++ [(⟨12, 0⟩ : Tk)]) ⟨(withinP y 3 ++ ⟨#[32, 124, 32]⟩) ++ withinP x 4, 3⟩ :=
  p_bin (M := ⟨#[32, 124, 32]⟩) (t := [124, 32]) (k := 0) (sg := [124]) (la := 3) (lb := 4) (lv := 3) rfl (fun h => .blank (lex_one (by decide) (.blank h))) (fun h1 h2 => mk_or h1 h2) (by decide) (by decide) (by decide) hy hx
theorem p_imp (hy : PartF names a y) (hx : PartF names b x) : PartF names (a ++ b ++ [(⟨13, 0⟩ : Tk)]) ⟨(withinP y 3 ++ ⟨#[32, 45, 62, 32]⟩) ++ withinP x 2, 2⟩ :=
  p_bin (M := ⟨#[32, 45, 62, 32]⟩) (t := [45, 62, 32]) (k := 0) (sg := [45, 62]) (la := 3) (lb := 2) (lv := 2) rfl (fun h => .blank (lex_imp (.blank h))) (fun h1 h2 => mk_imp h1 h2) (by decide) (by decide) (by decide) hy hx
theorem p_iff (hy : PartF names a y) (hx : PartF names b x) : PartF names (a ++ b ++ [(⟨14, 0⟩ : Tk)]) ⟨(withinP y 1 ++ ⟨#[32, 60, 45, 62, 32]⟩) ++ withinP x 2, 1⟩ :=
  p_bin (M := ⟨#[32, 60, 45, 62, 32]⟩) (t := [60, 45, 62, 32]) (k := 0) (sg := [60, 45, 62]) (la := 1) (lb := 2) (lv := 1) rfl (fun h => .blank (lex_iff (.blank h))) (fun h1 h2 => mk_iff h1 h2) (by decide) (by decide) (by decide) hy hx
theorem p_until (hy : PartF names a y) (hx : PartF names b x) : PartF names (a ++ b ++ [(⟨15, 0⟩ : Tk)]) ⟨(withinP y 6 ++ ⟨#[32, 85, 32]⟩) ++ withinP x 5, 5⟩ :=
  p_bin (M := ⟨#[32, 85, 32]⟩) (t := [85, 32]) (k := (sortL [85]).1) (sg := [85]) (la := 6) (lb := 5) (lv := 5) rfl (fun h => .blank (sp_word (w := [85]) (by decide) (by decide) (by decide) h)) (fun h1 h2 => mk_til rfl h1 h2) (by decide) (by decide) (by decide) hy hx
theorem p_rel (hy : PartF names a y) (hx : PartF names b x) : PartF names (a ++ b ++ [(⟨16, 0⟩ : Tk)]) ⟨(withinP y 6 ++ ⟨#[32, 82, 32]⟩) ++ withinP x 5, 5⟩ :=
  p_bin (M := ⟨#[32, 82, 32]⟩) (t := [82, 32]) (k := (sortL [82]).1) (sg := [82]) (la := 6) (lb := 5) (lv := 5) rfl (fun h => .blank (sp_word (w := [82]) (by decide) (by decide) (by decide) h)) (fun h1 h2 => mk_til rfl h1 h2) (by decide) (by decide) (by decide) hy hx
theorem p_plus (hy : PartP names a y) (hx : PartP names b x) : PartP names (a ++ b ++ [(⟨21, 0⟩ : Tk)]) ⟨(withinP y 1 ++ ⟨#[32, 43, 32]⟩) ++ withinP x 2, 1⟩ :=
  p_binP (M := ⟨#[32, 43, 32]⟩) (t := [43, 32]) (k := 0) (sg := [43]) (la := 1) (lb := 2) (lv := 1) rfl (fun h => .blank (lex_one (by decide) (.blank h))) (fun h1 h2 => mk_plus h1 h2) (by decide) (by decide) (by decide) hy hx
theorem p_seq (hy : PartP names a y) (hx : PartP names b x) : PartP names (a ++ b ++ [(⟨22, 0⟩ : Tk)]) ⟨(withinP y 2 ++ ⟨#[32, 59, 32]⟩) ++ withinP x 3, 2⟩ :=
  p_binP (M := ⟨#[32, 59, 32]⟩) (t := [59, 32]) (k := 0) (sg := [59]) (la := 2) (lb := 3) (lv := 2) rfl (fun h => .blank (lex_one (by decide) (.blank h))) (fun h1 h2 => mk_seq h1 h2) (by decide) (by decide) (by decide) hy hx
theorem p_not (hx : PartF names a x) : PartF names (a ++ [(⟨6, 0⟩ : Tk)]) ⟨⟨#[33]⟩ ++ withinP x 6, 6⟩ := by
  obtain ⟨wx, lx, vx⟩ := withinF hx (m := 6) (by decide) (by decide)
  refine ⟨(0, [33]) :: wx, ?_, good_of (k := 6) (by decide) (by decide) (.inr rfl) (mk_pre (s := [33]) (by decide) vx), by show (1 : Int) ≤ 6; decide⟩
  show LexR ((⟨#[33]⟩ ++ withinP x 6 : ByteArray).data.toList) _
  rw [bs_app]
  exact lex_one (by decide) lx
theorem p_pre {M : ByteArray} {c : UInt8} {op : Int} (hM : M.data.toList = [c, 32]) (hall : wordB c = true) (hs : (sortL [c]).2 = true) (hp : (([c] : Bs), op) ∈ pres) (hx : PartF names a x) : PartF names (a ++ [(⟨op, 0⟩ : Tk)]) ⟨M ++ withinP x 6, 6⟩ := by
  obtain ⟨wx, lx, vx⟩ := withinF hx (m := 6) (by decide) (by decide)
  refine ⟨((sortL [c]).1, [c]) :: wx, ?_, good_of (k := 6) (by decide) (by decide) (.inr rfl) (mk_pre hp vx), by show (1 : Int) ≤ 6; decide⟩
  show LexR ((M ++ withinP x 6 : ByteArray).data.toList) _
  rw [bs_app, hM]
  exact sp_word (w := [c]) (by simp) (by simp [hall]) hs lx
theorem p_star (hx : PartP names a x) : PartP names (a ++ [(⟨23, 0⟩ : Tk)]) ⟨withinP x 3 ++ ⟨#[42]⟩, 3⟩ := by
  obtain ⟨wx, lx, vx⟩ := withinPP hx (m := 3) (by decide) (by decide)
  refine ⟨wx ++ [(0, [42])], ?_, goodP_of (k := 3) (by decide) (by decide) (by show (3 : Int) ≤ ((3 : Nat) : Int); decide) (mk_star vx), by show (1 : Int) ≤ 3; decide⟩
  show LexR ((withinP x 3 ++ ⟨#[42]⟩ : ByteArray).data.toList) _
  rw [bs_app]
  exact lex_app (.inr ⟨42, [], rfl, by decide⟩) lx (lex_one (by decide) .nil)
theorem p_step (hx : PartF names a x) : PartP names (a ++ [(⟨19, 0⟩ : Tk)]) ⟨(⟨#[123]⟩ ++ x.f0) ++ ⟨#[125]⟩, 4⟩ := by
  obtain ⟨ws, hl, hg, hn⟩ := hx
  refine ⟨(0, [123]) :: (ws ++ [(0, [125])]), ?_, goodP_of (k := 4) (by decide) (by decide) (by show (4 : Int) ≤ ((4 : Nat) : Int); decide) (mk_step (hg 1 (by decide) (by decide) hn)), by show (1 : Int) ≤ 4; decide⟩
  show LexR (((⟨#[123]⟩ ++ x.f0) ++ ⟨#[125]⟩ : ByteArray).data.toList) _
  rw [bs_app, bs_app]
  exact lex_one (by decide) (lex_app (.inr ⟨125, [], rfl, by decide⟩) hl (lex_one (by decide) .nil))
theorem p_test (hx : PartF names a x) : PartP names (a ++ [(⟨20, 0⟩ : Tk)]) ⟨⟨#[63]⟩ ++ withinP x 6, 4⟩ := by
  obtain ⟨wx, lx, vx⟩ := withinF hx (m := 6) (by decide) (by decide)
  refine ⟨(0, [63]) :: wx, ?_, goodP_of (k := 4) (by decide) (by decide) (by show (4 : Int) ≤ ((4 : Nat) : Int); decide) (mk_test vx), by show (1 : Int) ≤ 4; decide⟩
  show LexR ((⟨#[63]⟩ ++ withinP x 6 : ByteArray).data.toList) _
  rw [bs_app]
  exact lex_one (by decide) lx
theorem p_box (hy : PartP names a y) (hx : PartF names b x) : PartF names (a ++ b ++ [(⟨18, 0⟩ : Tk)]) ⟨((⟨#[91]⟩ ++ y.f0) ++ ⟨#[93, 32]⟩) ++ withinP x 6, 6⟩ := by
  obtain ⟨wx, lx, vx⟩ := withinF hx (m := 6) (by decide) (by decide)
  obtain ⟨wy, ly, hg, hn⟩ := hy
  refine ⟨(0, [91]) :: (wy ++ (0, [93]) :: wx), ?_, good_of (k := 6) (by decide) (by decide) (.inr rfl) (mk_modal (o := [91]) (s := [93]) (by decide) (hg 1 (by decide) (by decide) hn) vx), by show (1 : Int) ≤ 6; decide⟩
  show LexR ((((⟨#[91]⟩ ++ y.f0) ++ ⟨#[93, 32]⟩) ++ withinP x 6 : ByteArray).data.toList) _
  rw [bs_app, bs_app, bs_app, List.append_assoc, List.append_assoc]
  show LexR (91 :: (y.f0.data.toList ++ (93 :: 32 :: (withinP x 6).data.toList))) _
  exact lex_one (by decide) (lex_app (.inr ⟨93, 32 :: (withinP x 6).data.toList, rfl, by decide⟩) ly (lex_one (by decide) (.blank lx)))
theorem p_dia (hy : PartP names a y) (hx : PartF names b x) : PartF names (a ++ b ++ [(⟨17, 0⟩ : Tk)]) ⟨((⟨#[60]⟩ ++ y.f0) ++ ⟨#[62, 32]⟩) ++ withinP x 6, 6⟩ := by
  obtain ⟨wx, lx, vx⟩ := withinF hx (m := 6) (by decide) (by decide)
  obtain ⟨wy, ly, hg, hn⟩ := hy
  have hp := hg 1 (by decide) (by decide) hn
  have hhead : ∀ u, y.f0.data.toList ≠ 45 :: u := by
    intro u e
    obtain ⟨k, w, t, h1, h2⟩ := plus_head (lp1_end hp [] ⟨⟨by decide, by decide⟩, by decide⟩)
    rw [List.append_nil] at h1
    rw [h1] at ly
    rcases lex_head ly 45 u e with h3 | ⟨v, h3⟩
    · exact absurd h3 (by decide)
    · rw [h3] at h2
      rcases h2 with h2 | h2 | h2 <;> · injection h2 with h2 _; exact absurd h2 (by decide)
  have hne : y.f0.data.toList ≠ [] := by
    intro e
    obtain ⟨k, w, t, h1, h2⟩ := plus_head (lp1_end hp [] ⟨⟨by decide, by decide⟩, by decide⟩)
    rw [List.append_nil] at h1
    rw [e, h1] at ly
    cases ly
  refine ⟨(0, [60]) :: (wy ++ (0, [62]) :: wx), ?_, good_of (k := 6) (by decide) (by decide) (.inr rfl) (mk_modal (o := [60]) (s := [62]) (by decide) hp vx), by show (1 : Int) ≤ 6; decide⟩
  show LexR ((((⟨#[60]⟩ ++ y.f0) ++ ⟨#[62, 32]⟩) ++ withinP x 6 : ByteArray).data.toList) _
  rw [bs_app, bs_app, bs_app, List.append_assoc, List.append_assoc]
  show LexR (60 :: (y.f0.data.toList ++ (62 :: 32 :: (withinP x 6).data.toList))) _
  refine lex_less ?_ (lex_app (.inr ⟨62, 32 :: (withinP x 6).data.toList, rfl, by decide⟩) ly (lex_one (by decide) (.blank lx)))
  intro u e
  cases hy0 : y.f0.data.toList with
  | nil => exact hne hy0
  | cons c t =>
    rw [hy0] at e
    injection e with e1 e2
    exact hhead t (by rw [hy0, e1])
theorem p_word {M : ByteArray} {op : Int} (hM : M.data.toList ≠ []) (hall : M.data.toList.all wordB = true) (hs : (sortL M.data.toList).2 = true) (hp : (M.data.toList, op) ∈ words0) : PartF names [(⟨op, 0⟩ : Tk)] ⟨M, 7⟩ := by
  refine ⟨[((sortL M.data.toList).1, M.data.toList)], ?_, good_of (k := 6) (by decide) (by decide) (.inr rfl) (mk_word hp), by show (1 : Int) ≤ 7; decide⟩
  have := lex_word hM hall hs (v := []) (by intro c t e; cases e) .nil
  rwa [List.append_nil] at this
end
end Go.Proofs.YtaogoabnidbbpaaDoor.PText
