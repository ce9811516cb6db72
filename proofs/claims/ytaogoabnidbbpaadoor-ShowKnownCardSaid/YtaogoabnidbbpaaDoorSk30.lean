/- Texts of this work merged into one file, what the law does not need left out: PTextG; TextKnown5. Conditions stand in each law. -/
import Derived.Below
import Derived.Deep.Draws
import Derived.Deep.AppendLies
import Derived.Maps.AppendAt
import Derived.OwnWalk
import Derived.Laws.BytesArg
import Derived.Laws.MakeOwn
import Derived.Laws.OwnMore
import Derived.Deep.OwnRows
import Derived.Tactics
import Derived.Lib.ConvBytes
import Derived.Laws.Slices
import Derived.WalkKit
import Derived.KernelRfl
import Derived.RowKit3
import Derived.Deep.LoopGhost
import Derived.Deep.QuietTactic
import Derived.BigQuiet
import Derived.WideLaws
import Derived.Deep.DeepCutAuto
import Derived.Deep.CutBlock
import Derived.Deep.RegionHeld3
import Derived.Laws.Rows
import Derived.Lib.AppendStr
import Derived.ArgAppend
import Derived.Laws.IdiomCopy
import Derived.RowKit
import Derived.OrdersHeld
import Derived.Laws.BitsLemmas
import Derived.Laws.StructEq
import Derived.Test.YtaogoabnidbbpaaDoorProg
import Derived.Shelf.Strings.Builder1
import Derived.Shelf.Strings.BuilderF
import Derived.Shelf.Strings.BuilderK
import Derived.Shelf.Strings.Fields
import Derived.Lib.SmallJoins
import Derived.BigCall
import Derived.WalkMore
import Derived.Lib.OthersKept
import Derived.Lib.FrozenHead
import Derived.Maps.OwnOps
import Derived.Maps.Views
import Derived.WalkSmall
import Derived.Defers
import Derived.Recover
import Derived.Test.YtaogoabnidbbpaaDoorSk1
import Derived.Test.YtaogoabnidbbpaaDoorSk2
import Derived.Test.YtaogoabnidbbpaaDoorSk3
import Derived.Test.YtaogoabnidbbpaaDoorSk4
import Derived.Test.YtaogoabnidbbpaaDoorSk5
import Derived.Test.YtaogoabnidbbpaaDoorSk6
import Derived.Test.YtaogoabnidbbpaaDoorSk7
import Derived.Test.YtaogoabnidbbpaaDoorSk8
import Derived.Test.YtaogoabnidbbpaaDoorSk10
import Derived.Test.YtaogoabnidbbpaaDoorSk11
import Derived.Test.YtaogoabnidbbpaaDoorSk12
import Derived.Test.YtaogoabnidbbpaaDoorSk13
import Derived.Test.YtaogoabnidbbpaaDoorSk14
import Derived.Test.YtaogoabnidbbpaaDoorSk16
import Derived.Test.YtaogoabnidbbpaaDoorSk18
import Derived.Test.YtaogoabnidbbpaaDoorSk19
import Derived.Test.YtaogoabnidbbpaaDoorSk21
import Derived.Test.YtaogoabnidbbpaaDoorSk22
import Derived.Test.YtaogoabnidbbpaaDoorSk23
import Derived.Test.YtaogoabnidbbpaaDoorSk24
import Derived.Test.YtaogoabnidbbpaaDoorSk25
import Derived.Test.YtaogoabnidbbpaaDoorSk26
import Derived.Test.YtaogoabnidbbpaaDoorSk27
import Derived.Test.YtaogoabnidbbpaaDoorSk28
/-! PTextG -/
namespace Go.Proofs.YtaogoabnidbbpaaDoor.PText
open Go.RowKit Go.Proofs.YtaogoabnidbbpaaDoorW.PrintWords Go.Proofs.YtaogoabnidbbpaaDoorW.PrintLast Go.Proofs.YtaogoabnidbbpaaDoorW.PrintMore
attribute [local go_sem] max2_int min2_int max_two min_two max_three min_three max_four min_four   -- for this text's walks alone
set_option linter.unusedVariables false
set_option linter.unusedSimpArgs false
attribute [local go_sem high] eqA26 eqA55
def parse_Path.f (l0 : List ByteArray) (a1 : ByteArray) : Option ((List (S55)) × Int × Int) := (parse_read.f l0 a1 true).bind fun bt241 => (some (bt241.1, bt241.2.1, bt241.2.2))
set_option maxHeartbeats 8000000 in
set_option maxRecDepth 100000 in
theorem parse_Path.calls (A0 : Option Addr) (c0 : Nat) (l0 : List ByteArray) (a1 : ByteArray) (r1 : List (S55)) (r2 : Int) (r3 : Int) (w : World) (hr0 : Kd.C Kd.string w A0 l0.length l0) (hc0 : l0.length ≤ c0) (h : parse_Path.f l0 a1 = some (r1, r2, r3)) (HT : Aside0 (Laid w) := by exact ⟨Laid.later HT.out (by repeat (first | (with_reducible first | exact HB.out | apply below_alloc | apply pw_below_drewN | apply below_drew1) | exact HB.out | (refine below_set ?_ (Aside0.out (by assumption)))))⟩) :
    Calls Tryd.prog 31 #[.slice A0 l0.length c0, .string a1] w fun e w' => ∃ v0_ : Value, e = .returned (.tuple #[v0_, .agg #[.int .i64 r2, .int .i64 r3]]) ∧ Kd.R k55 55 w' w.heap.size (fun _ => True) v0_ r1 ∧ Below w.heap.size w w' := by
  have hu26 := Tryd.underlying26
  have HR0 := Aside0.mk hr0
  have HC0 := Aside0.mk hc0
  clear hr0 hc0
  have HB := Aside0.mk (Below.refl w.heap.size w)
  have H : ((parse_read.f l0 a1 true).bind fun bt241 => (some (bt241.1, bt241.2.1, bt241.2.2))) = some (r1, r2, r3) := h
  clear h
  replace H := Option.bind_eq_some_iff.mp H
  obtain ⟨⟨t241, t244, t245⟩, A30, H⟩ := H
  replace H : (some (t241, t244, t245)) = some (r1, r2, r3) := H
  have A3 := Aside0.mk A30
  clear A30
  simp only [Option.some.injEq, Prod.mk.injEq] at H
  obtain ⟨rfl, rfl, rfl⟩ := H
  go_enter Tryd.func31, Tryd.ntmps31
  go_wp2_with (first | ((with_reducible refine gate_dst (N := 5) rfl ?_); refine box_event ?hg (N := 5) ?hd (cs := #[.int .i64 0, .int .i64 0]) (t := 26) ?hr ?_; (case hd => rfl); (case hg => rfl); (case hr => first | (go_simp; done) | (go_simp; rfl)); intro gb240 hg w4 hbox hb; have n0_ := Aside0.mk (below_step (by repeat (first | (with_reducible first | exact HB.out | apply below_alloc | apply pw_below_drewN | apply below_drew1) | exact HB.out)) hb); have n1_ := Aside0.mk (hbox); have n2_ := Aside0.mk ((by rw [hg]; exact (below_size (by repeat (first | (with_reducible first | exact HB.out | apply below_alloc | apply pw_below_drewN | apply below_drew1) | exact HB.out))) : w.heap.size ≤ gb240)); have n3_ := Aside0.mk ((by rw [hg]; exact (below_size (by repeat (first | (with_reducible first | exact HB.out | apply below_alloc | apply pw_below_drewN | apply below_drew1) | exact HB.out))) : w.heap.size ≤ gb240)); clear HB; have HB := n0_; have BK240 := n1_; have GW240 := n2_; have GE240 := n3_; clear n0_ n1_ n2_ n3_; clear hb hbox hg) | ((with_reducible refine gate_callee (f := 53) rfl ?_); refine goesL_ (some 8) rfl rfl Tryd.func53 (by kernel_rfl) rfl #[.slice A0 l0.length c0, .string a1, .bool true] rfl (by (try simp only [List.map_toArray, List.map_cons, List.map_nil]); first | done | rfl | (simp only [List.length_drop, List.length_take]; rfl)) ?_; (with_reducible refine (parse_read.calls _ _ l0 a1 true t241 t244 t245 _ ?side1 ?side2 A3.out).mono ?_); (case side1 => repeat (first | exact (Kd.C_below HR0.out HB.out) | (with_reducible refine Kd.C_alloc ?_ _) | (with_reducible refine Kd.C_drewN ?_ _) | (with_reducible refine Kd.C_drew ?_))); (case side2 => exact HC0.out); rintro e w5 ⟨v242, rfl, ho0, hb⟩; refine ⟨_, rfl, ?_⟩; have n0_ := Aside0.mk (Kd.R_lower ho0 (below_size (by repeat (first | (with_reducible first | exact HB.out | apply below_alloc | apply pw_below_drewN | apply below_drew1 | refine below_set ?_ GE240.out) | exact HB.out)))); have n1_ := Aside0.mk (blk_below (g := gb240) (o := .cells #[.int .i64 0, .int .i64 0] 26 (0, 0)) (by (with_reducible repeat (first | refine blk_drewN ?_ _ | refine blk_drew ?_ | refine blk_alloc ?_ _)); exact BK240.out) hb); have n2_ := Aside0.mk (below_step (by repeat (first | (with_reducible first | exact HB.out | apply below_alloc | apply pw_below_drewN | apply below_drew1 | refine below_set ?_ GE240.out) | exact HB.out)) hb); clear BK240; clear HB; have HO243 := n0_; have BK240 := n1_; have HB := n2_; clear n0_ n1_ n2_; (try clear hb); (try clear hb2); (try clear hk); (try clear hi); (try clear ho0); have hcz6_0 : w5.cell? ⟨gb240, 0, none⟩ = some (.int .i64 0) := (blk_cell BK240.out 0).trans rfl; have hcz6_1 : w5.cell? ⟨gb240, 1, none⟩ = some (.int .i64 0) := (blk_cell BK240.out 1).trans rfl; have hfz6_0 := blk_frozen BK240.out 0; have hfz6_1 := blk_frozen BK240.out 1))
  refine bodyPost_ret (results_tc rfl _ _ gb240 26 #[.int .i64 t244, .int .i64 t245] (0, 0) _ rfl (by (with_reducible repeat (first | refine blk_drewN ?_ _ | refine blk_drew ?_ | refine blk_alloc ?_ _)); refine blk_put (cs := #[.int .i64 t244, .int .i64 0]) ?_ 1 _ rfl; (with_reducible repeat (first | refine blk_drewN ?_ _ | refine blk_drew ?_ | refine blk_alloc ?_ _)); refine blk_put (cs := #[.int .i64 0, .int .i64 0]) ?_ 0 _ rfl; (with_reducible repeat (first | refine blk_drewN ?_ _ | refine blk_drew ?_ | refine blk_alloc ?_ _)); exact BK240.out) Tryd.underlying26 rfl (by kernel_rfl)) rfl ?_
  exact ⟨_, by first | rfl | (simp [errW_none, errW_some] <;> rfl) | (simp [*, errW_none, errW_some] <;> rfl), by (with_reducible repeat (first | apply Kd.R_alloc | apply Kd.R_drewN | apply Kd.R_drew)); exact Kd.R_mono (Kd.R_far (p := ⟨gb240, 1, none⟩) (Kd.R_far (p := ⟨gb240, 0, none⟩) (Kd.R_types HO243.out BK240.out (by decide)) (fun _ hk => hk.2) (.int .i64 t244)) (fun _ hk => hk.2) (.int .i64 t245)) (fun _ hk => trivial), by repeat (first | (with_reducible first | exact HB.out | apply below_alloc | apply pw_below_drewN | apply below_drew1 | refine below_set ?_ GE240.out) | exact HB.out)⟩
end Go.Proofs.YtaogoabnidbbpaaDoor.PText
/-! TextKnown5 -/
namespace Go.Proofs.YtaogoabnidbbpaaDoor.PText
open Go.RowKit Go.Proofs.YtaogoabnidbbpaaDoorW.PrintWords Go.Proofs.YtaogoabnidbbpaaDoorW.PrintLast Go.Proofs.YtaogoabnidbbpaaDoorW.PrintMore Go.Proofs.YtaogoabnidbbpaaDoorW.Aid
set_option linter.unusedVariables false
/-- Blocks laid one behind the other. -/
def allocs (w : World) : List Obj → World
  | [] => w
  | o :: os => allocs (w.alloc o) os
theorem allocs_old (os : List Obj) : ∀ (w : World) (g : Nat) (o : Obj), w.heap[g]? = some o → (allocs w os).heap[g]? = some o := by
  induction os with
  | nil => intro w g o h; exact h
  | cons x os ih => intro w g o h; exact ih _ g o (blk_alloc h x)
theorem allocs_get (os : List Obj) : ∀ (w : World) (j : Nat) (o : Obj), os[j]? = some o → (allocs w os).heap[w.heap.size + j]? = some o := by
  induction os with
  | nil => intro w j o h; cases h
  | cons x os ih =>
    intro w j o h
    cases j with
    | zero =>
      obtain rfl : x = o := by simpa using h
      exact allocs_old os _ _ _ (blk_new w x)
    | succ j =>
      have h1 := ih (w.alloc x) j o (by simpa using h)
      rw [show (w.alloc x).heap.size + j = w.heap.size + (j + 1) by simp; omega] at h1
      exact h1
theorem allocs_below (os : List Obj) : ∀ (w : World) (base : World), Below base.heap.size base w → Below base.heap.size base (allocs w os) := by
  induction os with
  | nil => intro w b h; exact h
  | cons x os ih => intro w b h; exact ih _ b (below_alloc h x)
def strsO (l : List ByteArray) : Obj := .cells (l.map fun s => Value.string s).toArray 9 (0, 0)
def toksO (l : List S55) : Obj := .cells (l.flatMap fun t => [Value.int .u8 t.f0, Value.int .u8 t.f1]).toArray 55 (0, 0)
theorem strs_C {W : World} {g : Nat} {l : List ByteArray} (hl : l.length ≤ 4096) (h : W.heap[g]? = some (strsO l)) : Kd.C Kd.string W (some ⟨g, 0, none⟩) l.length l := by
  refine ⟨rfl, by omega, fun _ => ⟨_, rfl, fun j p hj => ⟨[.string p], rfl, rfl, fun i u hu => ?_⟩⟩⟩
  have hi : i = 0 := by have := (List.getElem?_eq_some_iff.1 hu).1; simp at this; exact this
  subst hi
  obtain rfl : Value.string p = u := by simpa using hu
  have h1 := blk_cell h j
  rw [show ((⟨g, 0, none⟩ : Addr).add (j * Kd.string.sz + 0)) = ⟨g, j, none⟩ by rw [show Kd.string.sz = 1 from rfl]; simp [Addr.add]; omega]
  rw [h1]
  simp [hj]
theorem flat_get (l : List S55) : ∀ (j : Nat) (p : S55), l[j]? = some p → (l.flatMap fun t => [Value.int .u8 t.f0, Value.int .u8 t.f1])[j * 2]? = some (.int .u8 p.f0) ∧ (l.flatMap fun t => [Value.int .u8 t.f0, Value.int .u8 t.f1])[j * 2 + 1]? = some (.int .u8 p.f1) := by
  induction l with
  | nil => intro j p h; cases h
  | cons x l ih =>
    intro j p h
    cases j with
    | zero => obtain rfl : x = p := by simpa using h
              exact ⟨rfl, rfl⟩
    | succ j =>
      obtain ⟨h1, h2⟩ := ih j p (by simpa using h)
      rw [List.flatMap_cons, show (j + 1) * 2 = j * 2 + 2 by omega]
      exact ⟨h1, h2⟩
theorem toks_C {W : World} {g : Nat} {l : List S55} (hl : l.length ≤ 4096) (h : W.heap[g]? = some (toksO l)) : Kd.C k55 W (some ⟨g, 0, none⟩) l.length l := by
  refine ⟨rfl, by omega, fun _ => ⟨_, rfl, fun j p hj => ⟨[.int .u8 p.f0, .int .u8 p.f1], rfl, k55_mk _ _, fun i u hu => ?_⟩⟩⟩
  obtain ⟨h1, h2⟩ := flat_get l j p hj
  rw [show ((⟨g, 0, none⟩ : Addr).add (j * k55.sz + i)) = ⟨g, j * 2 + i, none⟩ by rw [show k55.sz = 2 from rfl]; simp [Addr.add]; omega]
  rw [blk_cell h]
  match i, hu with
  | 0, hu => obtain rfl := Option.some.inj hu; simpa using h1
  | 1, hu => obtain rfl := Option.some.inj hu; simpa using h2
def nm5 : List ByteArray := [⟨#[112]⟩, ⟨#[113]⟩]
/-- The texts of the chapter's examples: 'p U q & p', 'p -> q -> p', 'p <-> q <-> p', '<{p} ; (?q + {true})*> last', '[{p}*] F q', '!p U X q'. -/
def tx5 : List ByteArray := [⟨#[112, 32, 85, 32, 113, 32, 38, 32, 112]⟩, ⟨#[112, 32, 45, 62, 32, 113, 32, 45, 62, 32, 112]⟩, ⟨#[112, 32, 60, 45, 62, 32, 113, 32, 60, 45, 62, 32, 112]⟩,
  ⟨#[60, 123, 112, 125, 32, 59, 32, 40, 63, 113, 32, 43, 32, 123, 116, 114, 117, 101, 125, 41, 42, 62, 32, 108, 97, 115, 116]⟩, ⟨#[91, 123, 112, 125, 42, 93, 32, 70, 32, 113]⟩, ⟨#[33, 112, 32, 85, 32, 88, 32, 113]⟩]
def wt5 : List (List S55) := [[⟨2, 0⟩, ⟨2, 1⟩, ⟨15, 0⟩, ⟨2, 0⟩, ⟨11, 0⟩], [⟨2, 0⟩, ⟨2, 1⟩, ⟨2, 0⟩, ⟨13, 0⟩, ⟨13, 0⟩], [⟨2, 0⟩, ⟨2, 1⟩, ⟨14, 0⟩, ⟨2, 0⟩, ⟨14, 0⟩],
  [⟨2, 0⟩, ⟨19, 0⟩, ⟨2, 1⟩, ⟨20, 0⟩, ⟨0, 0⟩, ⟨19, 0⟩, ⟨21, 0⟩, ⟨23, 0⟩, ⟨22, 0⟩, ⟨3, 0⟩, ⟨17, 0⟩], [⟨2, 0⟩, ⟨19, 0⟩, ⟨23, 0⟩, ⟨2, 1⟩, ⟨9, 0⟩, ⟨18, 0⟩], [⟨2, 0⟩, ⟨6, 0⟩, ⟨2, 1⟩, ⟨7, 0⟩, ⟨15, 0⟩]]
/-- The texts that are refused, and their faults. -/
def bad5 : List ByteArray := [⟨#[]⟩, ⟨#[112, 32, 113]⟩, ⟨#[40, 112]⟩, ⟨#[112, 32, 38]⟩, ⟨#[114]⟩, ⟨#[60, 112, 62, 32, 113]⟩, ⟨#[60, 123, 88, 32, 112, 125, 62, 32, 113]⟩]
instance decTok : DecidableEq S55 := fun a b => if h : a.f0 = b.f0 ∧ a.f1 = b.f1 then isTrue (by cases a; cases b; simp at h; simp [h]) else isFalse (by rintro rfl; exact h ⟨rfl, rfl⟩)
def objs5 (n : Nat) : List Obj := [strsO nm5, .cells #[.int .u8 2, .int .u8 0] 55 (0, 0), .cells #[.int .u8 2, .int .u8 1] 55 (0, 0), strsO tx5,
  toksO (wt5.getD 0 []), toksO (wt5.getD 1 []), toksO (wt5.getD 2 []), toksO (wt5.getD 3 []), toksO (wt5.getD 4 []), toksO (wt5.getD 5 []),
  .cells #[.slice (some ⟨n + 4, 0, none⟩) 5 5, .slice (some ⟨n + 5, 0, none⟩) 5 5, .slice (some ⟨n + 6, 0, none⟩) 5 5, .slice (some ⟨n + 7, 0, none⟩) 11 11, .slice (some ⟨n + 8, 0, none⟩) 6 6, .slice (some ⟨n + 9, 0, none⟩) 5 5] 46 (0, 0)]
/-- What was laid ahead of the loops lies there. -/
def KF (w W : World) : Prop := Below w.heap.size w W ∧ ∀ j o, (objs5 w.heap.size)[j]? = some o → W.heap[w.heap.size + j]? = some o
/-- What was laid ahead of the second loop. -/
def badO : Obj := .cells #[.int .i64 150, .int .i64 0, .int .i64 150, .int .i64 2, .int .i64 150, .int .i64 2, .int .i64 150, .int .i64 3, .int .i64 6, .int .i64 0, .int .i64 150, .int .i64 1, .int .i64 7, .int .i64 (-1)] 26 (0, 0)
def KG (g : Nat) (W : World) : Prop := W.heap[g]? = some (strsO bad5) ∧ W.heap[g + 1]? = some badO
theorem KG.below {g : Nat} {W W2 : World} (h : KG g W) (hb : Below W.heap.size W W2) : KG g W2 := ⟨blk_below h.1 hb, blk_below h.2 hb⟩
theorem KF.below {w W W2 : World} (h : KF w W) (hb : Below W.heap.size W W2) : KF w W2 := ⟨below_step h.1 hb, fun j o ho => blk_below (h.2 j o ho) hb⟩
theorem KF.start (w : World) : KF w (allocs w (objs5 w.heap.size)) := ⟨allocs_below _ _ _ (Below.refl _ _), fun j o ho => allocs_get _ w j o ho⟩
theorem KF.alloc {w W : World} (h : KF w W) (o : Obj) : KF w (W.alloc o) := h.below (below_alloc (Below.refl _ _) o)
theorem KF.drewN {w W : World} (h : KF w W) (n : Nat) : KF w (W.drewN n) := h.below (pw_below_drewN (Below.refl _ _) n)
end Go.Proofs.YtaogoabnidbbpaaDoor.PText
