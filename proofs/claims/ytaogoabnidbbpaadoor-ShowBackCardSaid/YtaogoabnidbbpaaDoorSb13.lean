/- Texts of this work merged into one file, what the law does not need left out: TextReader; TextMethods; TextSlim; TextReads; TextLexes; TextRuns. Conditions stand in each law. -/
import Derived.Below
import Derived.Deep.Draws
import Derived.Deep.AppendLies
import Derived.Maps.AppendAt
import Derived.OwnWalk
import Derived.Laws.BytesArg
import Derived.Laws.MakeOwn
import Derived.Laws.OwnMore
import Derived.Deep.OwnRows
import Derived.Tactics
import Derived.Lib.ConvBytes
import Derived.Laws.Slices
import Derived.WalkKit
import Derived.KernelRfl
import Derived.RowKit3
import Derived.Deep.LoopGhost
import Derived.Deep.QuietTactic
import Derived.BigQuiet
import Derived.WideLaws
import Derived.Deep.DeepCutAuto
import Derived.Deep.CutBlock
import Derived.Deep.RegionHeld3
import Derived.Laws.Rows
import Derived.Lib.AppendStr
import Derived.ArgAppend
import Derived.Laws.IdiomCopy
import Derived.RowKit
import Derived.OrdersHeld
import Derived.Laws.BitsLemmas
import Derived.Laws.StructEq
import Derived.Test.YtaogoabnidbbpaaDoorProg
import Derived.Shelf.Strings.Builder1
import Derived.Shelf.Strings.BuilderF
import Derived.Shelf.Strings.BuilderK
import Derived.Shelf.Strings.Fields
import Derived.Lib.SmallJoins
import Derived.BigCall
import Derived.WalkMore
import Derived.Lib.OthersKept
import Derived.Lib.FrozenHead
import Derived.WalkSmall
import Derived.Test.YtaogoabnidbbpaaDoorSb1
import Derived.Test.YtaogoabnidbbpaaDoorSb2
import Derived.Test.YtaogoabnidbbpaaDoorSb3
import Derived.Test.YtaogoabnidbbpaaDoorSb4
import Derived.Test.YtaogoabnidbbpaaDoorSb5
import Derived.Test.YtaogoabnidbbpaaDoorSb6
import Derived.Test.YtaogoabnidbbpaaDoorSb7
import Derived.Test.YtaogoabnidbbpaaDoorSb8
import Derived.Test.YtaogoabnidbbpaaDoorSb9
import Derived.Test.YtaogoabnidbbpaaDoorSb10
import Derived.Test.YtaogoabnidbbpaaDoorSb11
import Derived.Test.YtaogoabnidbbpaaDoorSb12
/-! TextReader -/
namespace Go.Proofs.YtaogoabnidbbpaaDoor.PText
open Go.RowKit Go.Proofs.YtaogoabnidbbpaaDoorW.PrintWords Go.Proofs.YtaogoabnidbbpaaDoorW.PrintLast Go.Proofs.YtaogoabnidbbpaaDoorW.PrintMore Go.Proofs.YtaogoabnidbbpaaDoorW.Aid
set_option linter.unusedVariables false
/-- The reader in block g of world W: names and words lie in w0, below what was new since. -/
def RdAt (w0 : World) (g : Nat) (nm : Option Addr) (nn cn : Nat) (last : Int) (W : World) (r : Rd) : Prop :=
  ∃ A c vo, W.heap[g]? = some (.cells #[.slice nm nn cn, .slice A r.ws.length c, .int .i64 last, vo] 98 (0, 0)) ∧ w0.heap.size ≤ g ∧ Kd.C k31 w0 A r.ws.length r.ws ∧ r.ws.length ≤ c ∧ Kd.R k55 55 W w0.heap.size (fun k => k ≠ g) vo r.out ∧ Below w0.heap.size w0 W
theorem next_nil {r : Rd} (h : r.ws = []) : r.next = [] := by unfold Rd.next; rw [h]
theorem next_rd {r : Rd} (h : r.ws ≠ []) : bytesB r.next = (rd_T31 r.ws 0).f1 := by
  unfold Rd.next rd_T31
  cases hw : r.ws with
  | nil => exact absurd hw h
  | cons w t => rfl
set_option maxHeartbeats 4000000 in
set_option maxRecDepth 100000 in
theorem next_calls (w0 : World) (g : Nat) (nm : Option Addr) (nn cn : Nat) (last : Int) (r : Rd) (W : World) (h : RdAt w0 g nm nn cn last W r) :
    Calls Tryd.prog 110 #[.pointer (some ⟨g, 0, none⟩)] W fun e w' => e = .returned (.string (bytesB r.next)) ∧ Drawn0 W w' := by
  obtain ⟨A, c, vo, hb, hg, hC, hc, hR, hB⟩ := h
  have HR := Aside0.mk hR
  have HC := Aside0.mk hC
  have HB := Aside0.mk hB
  have d1 : W.cell? ⟨g, 1, none⟩ = some (.slice A r.ws.length c) := (blk_cell hb 1).trans rfl
  clear hR hC hB hb hg hc
  by_cases h0 : r.ws = []
  · have hn := Aside0.mk (next_nil h0)
    have hz : Aside0 (r.ws.length = 0) := ⟨by rw [h0]; rfl⟩
    rw [hz.out] at d1
    clear h0
    go_enter Tryd.func110, Tryd.ntmps110
    go_wp2
    go_ret
    exact ⟨by rw [hn.out]; rfl, ⟨0, rfl⟩⟩
  · have hn := Aside0.mk (next_rd h0)
    have hpos : 0 < r.ws.length := List.length_pos_iff.2 h0
    have c1 : ((r.ws.length : Int) == 0) = false := beq_eq_false_iff_ne.2 (by omega)
    have c2 := eq_true (show (0 : Int) < (r.ws.length : Int) by omega)
    obtain ⟨ad, ead, hx0, hx1, hx2⟩ := at_T31 HC.out 0 (by omega) (by omega)
    cases ead
    have y1 : W.cell? ⟨ad.block, ad.off + 1, none⟩ = some (.string (rd_T31 r.ws 0).f1) := (HB.out.cell (World.block_lt_of_cell? w0 _ hx1)).trans hx1
    clear hx0 hx1 hx2 h0
    go_enter Tryd.func110, Tryd.ntmps110
    go_wp2
    go_ret
    exact ⟨by rw [hn.out]; rfl, ⟨0, rfl⟩⟩
theorem RdAt.drewN {w0 : World} {g : Nat} {nm : Option Addr} {nn cn : Nat} {last : Int} {r : Rd} {W : World} (h : RdAt w0 g nm nn cn last W r) (m : Nat) : RdAt w0 g nm nn cn last (W.drewN m) r := by
  obtain ⟨A, c, vo, hb, hg, hC, hc, hR, hB⟩ := h
  exact ⟨A, c, vo, hb, hg, hC, hc, Kd.R_drewN hR _, pw_below_drewN hB _⟩
/-- The words behind the first, stored. -/
theorem RdAt.pop_set {w0 : World} {g : Nat} {nm : Option Addr} {nn cn : Nat} {last : Int} {r : Rd} {W : World} {A : Option Addr} {c : Nat} {vo : Value} (hb : W.heap[g]? = some (.cells #[.slice nm nn cn, .slice A r.ws.length c, .int .i64 last, vo] 98 (0, 0)))
    (hg : w0.heap.size ≤ g) (hC : Kd.C k31 w0 A r.ws.length r.ws) (hc : r.ws.length ≤ c) (hR : Kd.R k55 55 W w0.heap.size (fun k => k ≠ g) vo r.out) (hB : Below w0.heap.size w0 W) (hpos : 1 ≤ r.ws.length) :
    RdAt w0 g nm nn cn last (W.setCell ⟨g, 1, none⟩ (.slice (if c = 1 then A else A.map (·.add 3)) (r.ws.length - 1) (c - 1))) r.pop := by
  have hd := Kd.C_drop (m := 1) (c := c) hC hpos hc
  have hl : r.pop.ws.length = r.ws.length - 1 := by show (r.ws.drop 1).length = _; rw [List.length_drop]
  refine ⟨_, c - 1, vo, ?_, hg, hd, by rw [hl]; omega, ?_, below_set hB hg⟩
  · rw [hl]
    exact blk_put hb 1 _ rfl
  · exact Kd.R_mono (Kd.R_far hR (fun _ hk => hk) _) (fun _ hk => hk)
set_option maxHeartbeats 4000000 in
set_option maxRecDepth 100000 in
theorem take_calls (w0 : World) (g : Nat) (nm : Option Addr) (nn cn : Nat) (last : Int) (r : Rd) (s : Bs) (hs : s ≠ []) (W : World) (h : RdAt w0 g nm nn cn last W r) :
    Calls Tryd.prog 98 #[.pointer (some ⟨g, 0, none⟩), .string (bytesB s)] W fun e w' => e = .returned (.bool (decide (r.next = s))) ∧ RdAt w0 g nm nn cn last w' (if r.next = s then r.pop else r) := by
  have HI := Aside0.mk h
  by_cases hns : r.next = s
  · rw [if_pos hns, decide_eq_true hns]
    have e1 : ((bytesB r.next).toList == (bytesB s).toList) = true := by rw [bytes_eq, bytes_eq, beq_iff_eq]; exact hns
    have e2 : ((bytesB r.next).toList != (bytesB s).toList) = false := by rw [bytes_eq, bytes_eq, bne_eq_false_iff_eq]; exact hns
    have hne : r.ws ≠ [] := by intro e; rw [next_nil e] at hns; exact hs hns.symm
    have hpos : 1 ≤ r.ws.length := List.length_pos_iff.2 hne
    clear hns h hne
    obtain ⟨A, c, vo, hb, hg, hC, hc, hR, hB⟩ := HI.out
    have d1 : W.cell? ⟨g, 1, none⟩ = some (.slice A r.ws.length c) := (blk_cell hb 1).trans rfl
    have f1 := blk_frozen hb 1
    have HP := Aside0.mk (fun nd => RdAt.pop_set (W := W.drewN nd) hb hg hC hc (Kd.R_drewN hR _) (pw_below_drewN hB _) hpos)
    have g1 := eq_true (show (1 : Int) ≤ (r.ws.length : Int) by omega)
    have g2 := eq_true (show (r.ws.length : Int) ≤ (c : Int) by omega)
    have g3 := eq_true (show 1 ≤ r.ws.length by omega)
    have g4 := eq_true (show r.ws.length ≤ c by omega)
    clear hb hg hC hR hB
    by_cases hc1 : c = 1
    · subst hc1
      have hl1 : Aside0 (r.ws.length - 1 = 0) := ⟨by omega⟩
      clear hc
      go_enter Tryd.func98, Tryd.ntmps98
      go_wp2_with (go_at_call 110; refine (next_calls w0 g nm nn cn last r _ HI.out).mono ?_; rintro e w' ⟨rfl, ⟨nd, rfl⟩⟩)
      go_ret
      have hp := HP.out nd
      first | rw [if_pos rfl] at hp | rw [if_pos trivial] at hp
      rw [hl1.out] at hp
      exact ⟨rfl, hp⟩
    · clear hc
      go_enter Tryd.func98, Tryd.ntmps98
      go_wp2_with (go_at_call 110; refine (next_calls w0 g nm nn cn last r _ HI.out).mono ?_; rintro e w' ⟨rfl, ⟨nd, rfl⟩⟩)
      go_ret
      have hp := HP.out nd
      rw [if_neg hc1] at hp
      exact ⟨rfl, hp⟩
  · rw [if_neg hns, decide_eq_false hns]
    have e1 : ((bytesB r.next).toList == (bytesB s).toList) = false := by rw [bytes_eq, bytes_eq, beq_eq_false_iff_ne]; exact hns
    have e2 : ((bytesB r.next).toList != (bytesB s).toList) = true := by rw [bytes_eq, bytes_eq, bne_iff_ne]; exact hns
    clear hns h
    go_enter Tryd.func98, Tryd.ntmps98
    go_wp2_with (go_at_call 110; refine (next_calls w0 g nm nn cn last r _ HI.out).mono ?_; rintro e w' ⟨rfl, ⟨nd, rfl⟩⟩)
    go_ret
    exact ⟨rfl, RdAt.drewN HI.out nd⟩
set_option maxHeartbeats 4000000 in
set_option maxRecDepth 100000 in
theorem put_calls (w0 : World) (g : Nat) (nm : Option Addr) (nn cn : Nat) (last : Int) (r : Rd) (op : Int) (hlen : r.out.length ≤ 1099511627776) (W : World) (h : RdAt w0 g nm nn cn last W r) :
    Calls Tryd.prog 99 #[.pointer (some ⟨g, 0, none⟩), .int .u8 op] W fun e w' => e = .returned (.tuple #[]) ∧ RdAt w0 g nm nn cn last w' (r.put op) := by
  obtain ⟨A, c, vo, hb, hg, hC, hc, hR, hB⟩ := h
  have HG := Aside0.mk hg
  have HC := Aside0.mk hC
  have Hc := Aside0.mk hc
  have HR := Aside0.mk hR
  have HB := Aside0.mk hB
  have HBK := Aside0.mk hb
  have HL := Aside0.mk hlen
  have hglt := Aside0.mk (blk_lt hb)
  have hvo : Aside0 (some g ≠ vo.ownBlock) := ⟨fun e => hR.1 g e.symm rfl⟩
  have d3 : W.cell? ⟨g, 3, none⟩ = some vo := (blk_cell hb 3).trans rfl
  have f3 := blk_frozen hb 3
  obtain ⟨Ao, co, eo⟩ := Kd.R_slice hR
  subst eo
  clear hg hC hc hR hB hb hlen
  go_enter Tryd.func99, Tryd.ntmps99
  go_wp2_with ((with_reducible refine gate_builtin (b := .append) (xs := #[.tmp 8, .tmp 11]) rfl ?_); at_builtin; refine Kd.R_append k55 (w0 := w0) w0.heap.size rfl (.tmp 8) (.tmp 11) 46 55 (.agg #[(.int .u8 0), (.int .u8 0)]) 2 rfl Tryd.underlying46 info55 rfl (by decide) (by omega) (.slice Ao r.out.length co) r.out (⟨op, 0⟩ : Tk) [.int .u8 op, .int .u8 0] (fun k => k ≠ g) (fun _ => False) rfl rfl ?aP (fun _ hk => hk.elim) ?aF ?aO ?aB ?aS ?aL ?_; (case aP => exact k55_mkM _ _ _ (⟨op, 0⟩ : Tk)); (case aB => exact HB.out); (case aF => exact (fun k hk e => absurd hglt.out (by rw [← e]; exact Nat.not_lt.2 hk))); (case aO => exact HR.out); (case aS => exact HB.out.size); (case aL => have := HL.out; omega); intro v1 w1 ho hb hg hat; obtain ⟨A2, c2, e2⟩ := Kd.R_slice ho; subst e2; have HO := Aside0.mk ho; have HB2 := Aside0.mk hb; have HBK2 := Aside0.mk (blk_grown HBK.out hg hvo.out); have f4 := blk_frozen HBK2.out 3; have d4 : w1.cell? ⟨g, 3, none⟩ = some (.slice Ao r.out.length co) := (blk_cell HBK2.out 3).trans rfl; clear ho hb hg hat HB HR)
  go_end0
  have hl : (r.out ++ [(⟨op, 0⟩ : Tk)]).length = r.out.length + 1 := by rw [List.length_append]; rfl
  have h2 := HO.out
  rw [hl] at h2
  have h3 := Kd.R_far (p := ⟨g, 3, none⟩) h2 (fun _ hk => hk) (.slice A2 (r.out.length + 1) c2)
  exact ⟨rfl, A, c, .slice A2 (r.out.length + 1) c2, blk_put HBK2.out 3 _ rfl, HG.out, HC.out, Hc.out, h3, below_set HB2.out HG.out⟩
/-- What the reader throws. -/
def thrown (e at_ : Int) : Ending := .panicked [{ v := .iface 95 (.agg #[.int .i64 e, .int .i64 at_]), recovered := false }]
theorem place_nil {r : Rd} (last : Int) (h : r.ws = []) : r.place last = last := by unfold Rd.place; rw [h]
theorem place_rd {r : Rd} (last : Int) (h : r.ws ≠ []) : r.place last = (rd_T31 r.ws 0).f2 := by
  unfold Rd.place rd_T31
  cases hw : r.ws with
  | nil => exact absurd hw h
  | cons w t => rfl
set_option maxHeartbeats 4000000 in
set_option maxRecDepth 100000 in
theorem fail_calls (w0 : World) (g : Nat) (nm : Option Addr) (nn cn : Nat) (last : Int) (r : Rd) (er : Int) (W : World) (h : RdAt w0 g nm nn cn last W r) :
    Calls Tryd.prog 69 #[.pointer (some ⟨g, 0, none⟩), .int .i64 er] W fun e w' => e = thrown er (r.place last) ∧ Below w0.heap.size w0 w' := by
  obtain ⟨A, c, vo, hb, hg, hC, hc, hR, hB⟩ := h
  have HC := Aside0.mk hC
  have HB := Aside0.mk hB
  have d1 : W.cell? ⟨g, 1, none⟩ = some (.slice A r.ws.length c) := (blk_cell hb 1).trans rfl
  have d2 : W.cell? ⟨g, 2, none⟩ = some (.int .i64 last) := (blk_cell hb 2).trans rfl
  clear hR hC hB hb hg hc
  by_cases h0 : r.ws = []
  · have hn := Aside0.mk (place_nil last h0)
    have hz : Aside0 (r.ws.length = 0) := ⟨by rw [h0]; rfl⟩
    rw [hz.out] at d1
    clear h0
    rw [hn.out]
    go_enter Tryd.func69, Tryd.ntmps69
    go_wp2
    exact ⟨rfl, rfl, HB.out⟩
  · have hn := Aside0.mk (place_rd last h0)
    have hpos : 0 < r.ws.length := List.length_pos_iff.2 h0
    have c1 : decide ((0 : Int) < (r.ws.length : Int)) = true := decide_eq_true (by omega)
    have c2 := eq_true (show (0 : Int) < (r.ws.length : Int) by omega)
    obtain ⟨ad, ead, hx0, hx1, hx2⟩ := at_T31 HC.out 0 (by omega) (by omega)
    cases ead
    have y2 : W.cell? ⟨ad.block, ad.off + 2, none⟩ = some (.int .i64 (rd_T31 r.ws 0).f2) := (HB.out.cell (World.block_lt_of_cell? w0 _ hx2)).trans hx2
    clear hx0 hx1 hx2 h0
    rw [hn.out]
    go_enter Tryd.func69, Tryd.ntmps69
    go_wp2
    exact ⟨rfl, rfl, HB.out⟩
/-- How a method's end is told of the memory: it goes on with the reader's block, or it throws. -/
def Told (w0 : World) (g : Nat) (nm : Option Addr) (nn cn : Nat) (last : Int) : End → Ending → World → Prop
  | .go r, e, w' => e = .returned (.tuple #[]) ∧ RdAt w0 g nm nn cn last w' r
  | .stop er a, e, w' => e = thrown er a ∧ Below w0.heap.size w0 w'
def wantE (last : Int) (s : Bs) (r : Rd) : End := if r.next = s then .go r.pop else r.fail last 150
set_option maxHeartbeats 4000000 in
set_option maxRecDepth 100000 in
theorem want_calls (w0 : World) (g : Nat) (nm : Option Addr) (nn cn : Nat) (last : Int) (r : Rd) (s : Bs) (hs : s ≠ []) (W : World) (h : RdAt w0 g nm nn cn last W r) :
    Calls Tryd.prog 118 #[.pointer (some ⟨g, 0, none⟩), .string (bytesB s)] W (Told w0 g nm nn cn last (wantE last s r)) := by
  have HI := Aside0.mk h
  have HT := take_calls w0 g nm nn cn last r s hs W h
  clear h
  by_cases hns : r.next = s
  · unfold wantE
    rw [if_pos hns] at HT ⊢
    rw [decide_eq_true hns] at HT
    have HTA := Aside0.mk HT
    clear HT hns
    go_enter Tryd.func118, Tryd.ntmps118
    go_wp2_with (go_at_call 98; refine HTA.out.mono ?_; rintro e w' ⟨rfl, hI2⟩)
    go_end0
    exact ⟨rfl, hI2⟩
  · unfold wantE
    rw [if_neg hns] at HT ⊢
    rw [decide_eq_false hns] at HT
    have HTA := Aside0.mk HT
    clear HT hns
    go_enter Tryd.func118, Tryd.ntmps118
    go_wp2_with (first | (go_at_call 98; refine HTA.out.mono ?_; rintro e w' ⟨rfl, hI2⟩; have HI2 := Aside0.mk hI2; clear hI2) | (go_at_call 69; refine (fail_calls w0 g nm nn cn last r 150 _ HI2.out).mono ?_; rintro e w' ⟨rfl, hb⟩; unfold thrown))
    exact ⟨rfl, rfl, hb⟩
end Go.Proofs.YtaogoabnidbbpaaDoor.PText
/-! TextMethods -/
namespace Go.Proofs.YtaogoabnidbbpaaDoor.PText
open Go.RowKit Go.Proofs.YtaogoabnidbbpaaDoorW.PrintWords Go.Proofs.YtaogoabnidbbpaaDoorW.PrintLast Go.Proofs.YtaogoabnidbbpaaDoorW.PrintMore Go.Proofs.YtaogoabnidbbpaaDoorW.Aid
set_option linter.unusedVariables false
def Rd.size (r : Rd) : Nat := r.out.length + r.ws.length
theorem pop_size (r : Rd) : r.pop.size ≤ r.size := by
  unfold Rd.size Rd.pop
  show r.out.length + (r.ws.drop 1).length ≤ _
  rw [List.length_drop]
  omega
theorem next_ws {r : Rd} {s : Bs} (hs : s ≠ []) (h : r.next = s) : 1 ≤ r.ws.length := by
  rcases Nat.eq_zero_or_pos r.ws.length with h0 | h0
  · have := next_nil (List.length_eq_zero_iff.1 h0)
    rw [this] at h
    exact absurd h.symm hs
  · exact h0
/-- Which function a method is; the loops inside are none. -/
def fnOf : Nt → Nat
  | .iff => 68 | .imp => 86 | .or => 101 | .and => 112
  | .til => 120 | .unary => 119 | .atom => 125 | .plus => 67
  | .seq => 85 | .star => 100 | .bare => 111
  | _ => 0
/-- What one method does, and does not grow. -/
def Does (names : List ByteArray) (w0 : World) (g : Nat) (nm : Option Addr) (nn cn : Nat) (last : Int) (n : Nat) (nt : Nt) : Prop :=
  ∀ (r : Rd) (e : End), run names last n nt r = some e → r.size ≤ 1099511627775 → ∀ W, RdAt w0 g nm nn cn last W r → Calls Tryd.prog (fnOf nt) #[.pointer (some ⟨g, 0, none⟩)] W (Told w0 g nm nn cn last e)
/-- A method never makes what is left and out together longer. -/
def Slim (names : List ByteArray) (last : Int) (n : Nat) (nt : Nt) : Prop := ∀ (r r' : Rd), run names last n nt r = some (.go r') → r'.size ≤ r.size
set_option maxHeartbeats 4000000 in
set_option maxRecDepth 100000 in
theorem imp_does (names : List ByteArray) (w0 : World) (g : Nat) (nm : Option Addr) (nn cn : Nat) (last : Int) (n : Nat) (sOr : Slim names last n .or) (sImp : Slim names last n .imp)
    (dOr : Does names w0 g nm nn cn last n .or) (dImp : Does names w0 g nm nn cn last n .imp) : Does names w0 g nm nn cn last (n + 1) .imp := by
  intro r e hrun hsz W hI
  rw [run] at hrun
  have HI := Aside0.mk hI
  clear hI
  cases h1 : run names last n .or r with
  | none => rw [h1] at hrun; cases hrun
  | some e1 =>
    rw [h1] at hrun
    have D1 := Aside0.mk (dOr r e1 h1 hsz)
    cases e1 with
    | stop er a =>
      obtain rfl : e = .stop er a := by cases hrun; rfl
      clear hrun h1
      show Calls Tryd.prog 86 _ W _
      go_enter Tryd.func86, Tryd.ntmps86
      go_wp2_with (go_at_call 101; refine (D1.out W HI.out).mono ?_; rintro e w' ⟨rfl, hb⟩; unfold thrown)
      exact ⟨rfl, rfl, hb⟩
    | go r1 =>
      have hr1 := sOr r r1 h1
      clear h1
      have hrun2 : (if r1.next = [45, 62] then thenDo (run names last n .imp r1.pop) (fun r => some (.go (r.put 13))) else some (.go r1)) = some e := hrun
      clear hrun
      by_cases hn : r1.next = [45, 62]
      · rw [if_pos hn] at hrun2
        have hws := next_ws (by decide) hn
        have hps := pop_size r1
        cases h2 : run names last n .imp r1.pop with
        | none => rw [h2] at hrun2; cases hrun2
        | some e2 =>
          rw [h2] at hrun2
          have D2 := Aside0.mk (dImp r1.pop e2 h2 (by omega))
          have HT := Aside0.mk (fun W h => take_calls w0 g nm nn cn last r1 [45, 62] (by decide) W h)
          have HN := Aside0.mk hn
          rw [if_pos hn, decide_eq_true hn] at HT
          clear hn
          cases e2 with
          | stop er a =>
            obtain rfl : e = .stop er a := by cases hrun2; rfl
            clear hrun2 h2
            show Calls Tryd.prog 86 _ W _
            go_enter Tryd.func86, Tryd.ntmps86
            go_wp2_with (first | (go_at_call 101; refine (D1.out W HI.out).mono ?_; rintro e w' ⟨rfl, hI2⟩; have HI2 := Aside0.mk hI2; clear hI2) | (go_at_call 98; refine (HT.out _ HI2.out).mono ?_; rintro e w' ⟨rfl, hI3⟩; have HI3 := Aside0.mk hI3; clear hI3) | (go_at_call 86; refine (D2.out _ HI3.out).mono ?_; rintro e w' ⟨rfl, hb⟩; unfold thrown))
            exact ⟨rfl, rfl, hb⟩
          | go r2 =>
            obtain rfl : e = .go (r2.put 13) := by cases hrun2; rfl
            have hr2 := sImp r1.pop r2 h2
            have hlo : r2.out.length ≤ 1099511627776 := by unfold Rd.size at *; omega
            have HP := Aside0.mk (fun W h => put_calls w0 g nm nn cn last r2 13 hlo W h)
            clear hrun2 h2 hr2 hlo
            show Calls Tryd.prog 86 _ W _
            go_enter Tryd.func86, Tryd.ntmps86
            go_wp2_with (first | (go_at_call 101; refine (D1.out W HI.out).mono ?_; rintro e w' ⟨rfl, hI2⟩; have HI2 := Aside0.mk hI2; clear hI2) | (go_at_call 98; refine (HT.out _ HI2.out).mono ?_; rintro e w' ⟨rfl, hI3⟩; have HI3 := Aside0.mk hI3; clear hI3) | (go_at_call 86; refine (D2.out _ HI3.out).mono ?_; rintro e w' ⟨rfl, hI4⟩; have HI4 := Aside0.mk hI4; clear hI4) | (go_at_call 99; refine (HP.out _ HI4.out).mono ?_; rintro e w' ⟨rfl, hI5⟩))
            go_end0
            exact ⟨rfl, hI5⟩
      · rw [if_neg hn] at hrun2
        obtain rfl : e = .go r1 := by cases hrun2; rfl
        have HT := Aside0.mk (fun W h => take_calls w0 g nm nn cn last r1 [45, 62] (by decide) W h)
        rw [if_neg hn, decide_eq_false hn] at HT
        clear hrun2 hn
        show Calls Tryd.prog 86 _ W _
        go_enter Tryd.func86, Tryd.ntmps86
        go_wp2_with (first | (go_at_call 101; refine (D1.out W HI.out).mono ?_; rintro e w' ⟨rfl, hI2⟩; have HI2 := Aside0.mk hI2; clear hI2) | (go_at_call 98; refine (HT.out _ HI2.out).mono ?_; rintro e w' ⟨rfl, hI3⟩))
        go_end0
        exact ⟨rfl, hI3⟩
end Go.Proofs.YtaogoabnidbbpaaDoor.PText
/-! TextSlim -/
namespace Go.Proofs.YtaogoabnidbbpaaDoor.PText
open Go.RowKit Go.Proofs.YtaogoabnidbbpaaDoorW.PrintWords Go.Proofs.YtaogoabnidbbpaaDoorW.PrintLast Go.Proofs.YtaogoabnidbbpaaDoorW.PrintMore
set_option linter.unusedVariables false
theorem then_go {x : Option End} {f : Rd → Option End} {r' : Rd} (h : thenDo x f = some (.go r')) : ∃ r1, x = some (.go r1) ∧ f r1 = some (.go r') := by
  cases x with
  | none => cases h
  | some e => cases e with
    | stop a b => cases h
    | go r1 => exact ⟨r1, rfl, h⟩
theorem pop_one {r : Rd} (h : 1 ≤ r.ws.length) : r.pop.size + 1 = r.size := by
  unfold Rd.size Rd.pop
  show r.out.length + (r.ws.drop 1).length + 1 = _
  rw [List.length_drop]; omega
theorem put_one (r : Rd) (op : Int) : (r.put op).size = r.size + 1 := by
  unfold Rd.size Rd.put
  show (r.out ++ [_]).length + r.ws.length = _
  rw [List.length_append, List.length_cons, List.length_nil]; omega
theorem put_ws (r : Rd) (op : Int) : (r.put op).ws = r.ws := rfl
theorem want_go {r r' : Rd} {last : Int} {s : Bs} {f : Rd → Option End} (hs : s ≠ []) (h : r.want last s f = some (.go r')) : 1 ≤ r.ws.length ∧ f r.pop = some (.go r') := by
  unfold Rd.want at h
  split at h
  · rename_i hn; exact ⟨next_ws hs hn, h⟩
  · cases h
theorem name_go {r r' : Rd} {names : List ByteArray} {last : Int} (h : r.name names last = some (.go r')) : r'.size = r.size := by
  unfold Rd.name at h
  cases hw : r.ws with
  | nil => rw [hw] at h; cases h
  | cons w t =>
    rw [hw] at h
    simp only at h
    split at h
    · cases h
    · split at h
      · cases h
      · have h2 := Option.some.inj h
        injection h2 with h2
        subst h2
        unfold Rd.size Rd.pop
        show (r.out ++ [_]).length + (List.drop 1 (w :: t)).length = r.out.length + r.ws.length
        rw [hw, List.length_append, List.length_drop]
        simp
        omega
theorem run_slim (names : List ByteArray) (last : Int) (n : Nat) : ∀ nt, Slim names last n nt := by
  induction n with
  | zero => intro nt r r' h; rw [run] at h; cases h
  | succ n ih =>
    have go1 : ∀ {r r' : Rd}, (some (End.go r) : Option End) = some (.go r') → r' = r := by intro r r' h; injection h with h; injection h with h; exact h.symm
    have two : ∀ (a b : Nt) (r r' : Rd), thenDo (run names last n a r) (run names last n b) = some (.go r') → r'.size ≤ r.size := by
      intro a b r r' h
      obtain ⟨r1, h1, h2⟩ := then_go h
      exact Nat.le_trans (ih b r1 r' h2) (ih a r r1 h1)
    have more : ∀ (s : Bs) (a b : Nt) (op : Int) (r r' : Rd), s ≠ [] → (if r.next = s then thenDo (run names last n a r.pop) (fun r => run names last n b (r.put op)) else some (.go r)) = some (.go r') → r'.size ≤ r.size := by
      intro s a b op r r' hs h
      split at h
      · rename_i hn
        obtain ⟨r1, h1, h2⟩ := then_go h
        have h3 := ih a r.pop r1 h1
        have h4 := ih b _ r' h2
        rw [put_one] at h4
        have h5 := pop_one (next_ws hs hn)
        omega
      · rw [go1 h]; exact Nat.le_refl _
    have un : ∀ (s : Bs) (a : Nt) (op : Int) (r r' : Rd), s ≠ [] → r.next = s → thenDo (run names last n a r.pop) (fun r => some (.go (r.put op))) = some (.go r') → r'.size ≤ r.size := by
      intro s a op r r' hs hn h
      obtain ⟨r1, h1, h2⟩ := then_go h
      have h3 := ih a r.pop r1 h1
      rw [go1 h2, put_one]
      have h5 := pop_one (next_ws hs hn)
      omega
    have modal : ∀ (s s2 : Bs) (op : Int) (r r' : Rd), s ≠ [] → s2 ≠ [] → r.next = s → thenDo (run names last n .plus r.pop) (fun r => r.want last s2 (fun r => thenDo (run names last n .unary r) (fun r => some (.go (r.put op))))) = some (.go r') → r'.size ≤ r.size := by
      intro s s2 op r r' hs hs2 hn h
      obtain ⟨r1, h1, h2⟩ := then_go h
      have h3 := ih .plus r.pop r1 h1
      obtain ⟨h4, h6⟩ := want_go hs2 h2
      obtain ⟨r2, h7, h8⟩ := then_go h6
      have h9 := ih .unary r1.pop r2 h7
      rw [go1 h8, put_one]
      have h5 := pop_one (next_ws hs hn)
      have h10 := pop_one h4
      omega
    have paren : ∀ (s s2 : Bs) (a : Nt) (f : Rd → Rd) (r r' : Rd), s ≠ [] → s2 ≠ [] → (∀ q, (f q).size ≤ q.size + 1) → r.next = s → thenDo (run names last n a r.pop) (fun r => r.want last s2 (fun r => some (.go (f r)))) = some (.go r') → r'.size ≤ r.size := by
      intro s s2 a f r r' hs hs2 hf hn h
      obtain ⟨r1, h1, h2⟩ := then_go h
      have h3 := ih a r.pop r1 h1
      obtain ⟨h4, h6⟩ := want_go hs2 h2
      rw [go1 h6]
      have h5 := pop_one (next_ws hs hn)
      have h10 := pop_one h4
      have h11 := hf r1.pop
      omega
    have word : ∀ (s : Bs) (op : Int) (r r' : Rd), s ≠ [] → r.next = s → (some (End.go (r.put op).pop) : Option End) = some (.go r') → r'.size ≤ r.size := by
      intro s op r r' hs hn h
      rw [go1 h]
      have h5 := pop_one (r := r.put op) (by rw [put_ws]; exact next_ws hs hn)
      rw [put_one] at h5
      omega
    intro nt r r' h
    cases nt with
    | iff => rw [run] at h; exact two _ _ r r' h
    | or => rw [run] at h; exact two _ _ r r' h
    | and => rw [run] at h; exact two _ _ r r' h
    | plus => rw [run] at h; exact two _ _ r r' h
    | seq => rw [run] at h; exact two _ _ r r' h
    | star => rw [run] at h; exact two _ _ r r' h
    | moreIff => rw [run] at h; exact more _ _ _ _ r r' (by decide) h
    | moreOr => rw [run] at h; exact more _ _ _ _ r r' (by decide) h
    | moreAnd => rw [run] at h; exact more _ _ _ _ r r' (by decide) h
    | morePlus => rw [run] at h; exact more _ _ _ _ r r' (by decide) h
    | moreSeq => rw [run] at h; exact more _ _ _ _ r r' (by decide) h
    | stars =>
      rw [run] at h
      split at h
      · rename_i hn
        have h1 := ih .stars _ r' h
        rw [put_one] at h1
        have h5 := pop_one (next_ws (by decide) hn)
        omega
      · rw [go1 h]; exact Nat.le_refl _
    | imp =>
      rw [run] at h
      obtain ⟨r1, h1, h2⟩ := then_go h
      have h3 := ih .or r r1 h1
      split at h2
      · rename_i hn
        have := un _ .imp 13 r1 r' (by decide) hn h2
        omega
      · rw [go1 h2]; exact h3
    | til =>
      rw [run] at h
      obtain ⟨r1, h1, h2⟩ := then_go h
      have h3 := ih .unary r r1 h1
      split at h2
      · rename_i hn
        have := un _ .til 15 r1 r' (by decide) hn h2
        omega
      · split at h2
        · rename_i hn
          have := un _ .til 16 r1 r' (by decide) hn h2
          omega
        · rw [go1 h2]; exact h3
    | unary =>
      rw [run] at h
      split at h
      · rename_i hn; exact un _ .unary _ r r' (by decide) hn h
      split at h
      · rename_i hn; exact un _ .unary _ r r' (by decide) hn h
      split at h
      · rename_i hn; exact un _ .unary _ r r' (by decide) hn h
      split at h
      · rename_i hn; exact un _ .unary _ r r' (by decide) hn h
      split at h
      · rename_i hn; exact un _ .unary _ r r' (by decide) hn h
      split at h
      · rename_i hn; exact modal _ _ _ r r' (by decide) (by decide) hn h
      split at h
      · rename_i hn; exact modal _ _ _ r r' (by decide) (by decide) hn h
      · exact ih .atom r r' h
    | atom =>
      rw [run] at h
      split at h
      · rename_i hn; exact word _ _ r r' (by decide) hn h
      split at h
      · rename_i hn; exact word _ _ r r' (by decide) hn h
      split at h
      · rename_i hn; exact word _ _ r r' (by decide) hn h
      split at h
      · rename_i hn; exact paren _ _ .iff (fun q => q) r r' (by decide) (by decide) (fun q => Nat.le_succ _) hn h
      · exact Nat.le_of_eq (name_go h)
    | bare =>
      rw [run] at h
      split at h
      · rename_i hn; exact paren _ _ .iff (fun q => q.put 19) r r' (by decide) (by decide) (fun q => Nat.le_of_eq (put_one q 19)) hn h
      split at h
      · rename_i hn; exact un _ .unary _ r r' (by decide) hn h
      split at h
      · rename_i hn; exact paren _ _ .plus (fun q => q) r r' (by decide) (by decide) (fun q => Nat.le_succ _) hn h
      · cases h
end Go.Proofs.YtaogoabnidbbpaaDoor.PText
/-! TextReads -/
namespace Go.Proofs.YtaogoabnidbbpaaDoor.PText
open Go.RowKit Go.Proofs.YtaogoabnidbbpaaDoorW.PrintWords Go.Proofs.YtaogoabnidbbpaaDoorW.PrintLast Go.Proofs.YtaogoabnidbbpaaDoorW.PrintMore
set_option linter.unusedVariables false
/-- A word without its place. -/
abbrev Sy := Int × Bs
def sy (w : Wd) : Sy := (w.f0, w.f1.data.toList)
def nextS : List Sy → Bs
  | [] => []
  | w :: _ => w.2
def lefty : Nt → Option (Nt × Nt)
  | .iff => some (.imp, .moreIff)
  | .or => some (.and, .moreOr)
  | .and => some (.til, .moreAnd)
  | .plus => some (.seq, .morePlus)
  | .seq => some (.star, .moreSeq)
  | .star => some (.bare, .stars)
  | _ => none
def morely : Nt → Option (Bs × Int × Nt)
  | .moreIff => some ([60, 45, 62], 14, .imp)
  | .moreOr => some ([124], 12, .and)
  | .moreAnd => some ([38], 11, .til)
  | .morePlus => some ([43], 21, .seq)
  | .moreSeq => some ([59], 22, .star)
  | _ => none
def pres : List (Bs × Int) := [([33], 6), ([88], 7), ([78], 8), ([70], 9), ([71], 10)]
def modals : List (Bs × Bs × Int) := [([60], [62], 17), ([91], [93], 18)]
def words0 : List (Bs × Int) := [([116, 114, 117, 101], 0), ([102, 97, 108, 115, 101], 1), ([108, 97, 115, 116], 3)]
def rightb : Nt → Option Nt
  | .imp => some .or
  | .til => some .unary
  | _ => none
def righty : Nt → Bs → Option Int
  | .imp, s => if s = [45, 62] then some 13 else none
  | .til, s => if s = [85] then some 15 else if s = [82] then some 16 else none
  | _, _ => none
inductive Reads (names : List ByteArray) : Nt → List Sy → List Tk → List Sy → Prop
  | left {nt b m : Nt} {ws ws1 ws2 : List Sy} {l1 l2 : List Tk} : lefty nt = some (b, m) → Reads names b ws l1 ws1 → Reads names m ws1 l2 ws2 → Reads names nt ws (l1 ++ l2) ws2
  | more {nt b : Nt} {s : Bs} {op k : Int} {ws ws1 ws2 : List Sy} {l1 l2 : List Tk} : morely nt = some (s, op, b) → Reads names b ws l1 ws1 → Reads names nt ws1 l2 ws2 → Reads names nt ((k, s) :: ws) (l1 ++ [(⟨op, 0⟩ : Tk)] ++ l2) ws2
  | rest {nt b : Nt} {s : Bs} {op : Int} {ws : List Sy} : morely nt = some (s, op, b) → nextS ws ≠ s → Reads names nt ws [] ws
  | star {k : Int} {ws ws1 : List Sy} {l : List Tk} : Reads names .stars ws l ws1 → Reads names .stars ((k, [42]) :: ws) ([(⟨23, 0⟩ : Tk)] ++ l) ws1
  | unstar {ws : List Sy} : nextS ws ≠ [42] → Reads names .stars ws [] ws
  | one {nt b : Nt} {ws ws1 : List Sy} {l : List Tk} : rightb nt = some b → Reads names b ws l ws1 → righty nt (nextS ws1) = none → Reads names nt ws l ws1
  | right {nt b : Nt} {s : Bs} {op k : Int} {ws ws1 ws2 : List Sy} {l1 l2 : List Tk} : rightb nt = some b → righty nt s = some op → Reads names b ws l1 ((k, s) :: ws1) → Reads names nt ws1 l2 ws2 → Reads names nt ws (l1 ++ l2 ++ [(⟨op, 0⟩ : Tk)]) ws2
  | pre {s : Bs} {op k : Int} {ws ws1 : List Sy} {l : List Tk} : (s, op) ∈ pres → Reads names .unary ws l ws1 → Reads names .unary ((k, s) :: ws) (l ++ [(⟨op, 0⟩ : Tk)]) ws1
  | modal {o s : Bs} {op k1 k2 : Int} {ws ws1 ws2 : List Sy} {l1 l2 : List Tk} : (o, s, op) ∈ modals → Reads names .plus ws l1 ((k2, s) :: ws1) → Reads names .unary ws1 l2 ws2 → Reads names .unary ((k1, o) :: ws) (l1 ++ l2 ++ [(⟨op, 0⟩ : Tk)]) ws2
  | atom {ws ws1 : List Sy} {l : List Tk} : (∀ p ∈ pres, nextS ws ≠ p.1) → (∀ p ∈ modals, nextS ws ≠ p.1) → Reads names .atom ws l ws1 → Reads names .unary ws l ws1
  | word {s : Bs} {op k : Int} {ws : List Sy} : (s, op) ∈ words0 → Reads names .atom ((k, s) :: ws) [(⟨op, 0⟩ : Tk)] ws
  | paren {k1 k2 : Int} {ws ws1 : List Sy} {l : List Tk} : Reads names .iff ws l ((k2, [41]) :: ws1) → Reads names .atom ((k1, [40]) :: ws) l ws1
  | name {s : Bs} {ws : List Sy} {i : Nat} : (∀ p ∈ words0, s ≠ p.1) → s ≠ [40] → s ≠ [] → placeOf names s = some i → Reads names .atom ((2, s) :: ws) [(⟨2, (i : Int)⟩ : Tk)] ws
  | step {k1 k2 : Int} {ws ws1 : List Sy} {l : List Tk} : Reads names .iff ws l ((k2, [125]) :: ws1) → Reads names .bare ((k1, [123]) :: ws) (l ++ [(⟨19, 0⟩ : Tk)]) ws1
  | test {k1 : Int} {ws ws1 : List Sy} {l : List Tk} : Reads names .unary ws l ws1 → Reads names .bare ((k1, [63]) :: ws) (l ++ [(⟨20, 0⟩ : Tk)]) ws1
  | group {k1 k2 : Int} {ws ws1 : List Sy} {l : List Tk} : Reads names .plus ws l ((k2, [41]) :: ws1) → Reads names .bare ((k1, [40]) :: ws) l ws1
theorem next_sy (r : Rd) : nextS (r.ws.map sy) = r.next := by
  unfold Rd.next
  cases r.ws <;> rfl
theorem map_next {r : Rd} {s : Bs} (hs : s ≠ []) (h : r.next = s) : ∃ k, r.ws.map sy = (k, s) :: (r.pop.ws.map sy) := by
  unfold Rd.next at h
  unfold Rd.pop
  cases hw : r.ws with
  | nil => rw [hw] at h; exact absurd h.symm hs
  | cons w t =>
    rw [hw] at h
    refine ⟨w.f0, ?_⟩
    show (w.f0, w.f1.data.toList) :: t.map sy = (w.f0, s) :: (List.drop 1 (w :: t)).map sy
    rw [show w.f1.data.toList = s from h]; rfl
theorem pop_sy {r : Rd} {k : Int} {s : Bs} {ws : List Sy} (h : r.ws.map sy = (k, s) :: ws) : r.next = s ∧ r.pop.ws.map sy = ws := by
  have h1 := next_sy r
  rw [h] at h1
  refine ⟨h1.symm, ?_⟩
  show (r.ws.drop 1).map sy = ws
  rw [List.map_drop, h]; rfl
theorem want_go2 {r r' : Rd} {last : Int} {s : Bs} {f : Rd → Option End} (hs : s ≠ []) (h : r.want last s f = some (.go r')) : r.next = s ∧ f r.pop = some (.go r') := by
  unfold Rd.want at h
  split at h
  · rename_i hn; exact ⟨hn, h⟩
  · cases h
theorem name_go2 {r r' : Rd} {names : List ByteArray} {last : Int} (h : r.name names last = some (.go r')) : ∃ i s ws, r.ws.map sy = (2, s) :: ws ∧ s ≠ [] ∧ placeOf names s = some i ∧ r'.ws.map sy = ws ∧ r'.out = r.out ++ [(⟨2, (i : Int)⟩ : Tk)] ∧ r.next = s := by
  unfold Rd.name at h
  cases hw : r.ws with
  | nil => rw [hw] at h; cases h
  | cons w t =>
    rw [hw] at h
    simp only at h
    split at h
    · cases h
    · rename_i hne
      split at h
      · cases h
      · rename_i i hi
        have h2 := Option.some.inj h
        injection h2 with h2
        subst h2
        rw [not_or] at hne
        refine ⟨i, w.f1.data.toList, t.map sy, ?_, hne.1, hi, ?_, rfl, ?_⟩
        · show (w.f0, w.f1.data.toList) :: t.map sy = _
          rw [Classical.not_not.1 hne.2]
        · show ((w :: t).drop 1).map sy = _
          rfl
        · unfold Rd.next; rw [hw]
theorem run_reads (names : List ByteArray) (last : Int) (n : Nat) : ∀ nt (r r' : Rd), run names last n nt r = some (.go r') → ∃ l, Reads names nt (r.ws.map sy) l (r'.ws.map sy) ∧ r'.out = r.out ++ l := by
  induction n with
  | zero => intro nt r r' h; rw [run] at h; cases h
  | succ n ih =>
    have go1 : ∀ {r r' : Rd}, (some (End.go r) : Option End) = some (.go r') → r' = r := by intro r r' h; injection h with h; injection h with h; exact h.symm
    have two : ∀ (nt a b : Nt) (r r' : Rd), lefty nt = some (a, b) → thenDo (run names last n a r) (run names last n b) = some (.go r') → ∃ l, Reads names nt (r.ws.map sy) l (r'.ws.map sy) ∧ r'.out = r.out ++ l := by
      intro nt a b r r' hl h
      obtain ⟨r1, h1, h2⟩ := then_go h
      obtain ⟨l1, d1, o1⟩ := ih a r r1 h1
      obtain ⟨l2, d2, o2⟩ := ih b r1 r' h2
      exact ⟨l1 ++ l2, .left hl d1 d2, by rw [o2, o1, List.append_assoc]⟩
    have more : ∀ (nt : Nt) (s : Bs) (a : Nt) (op : Int) (r r' : Rd), s ≠ [] → morely nt = some (s, op, a) → (if r.next = s then thenDo (run names last n a r.pop) (fun r => run names last n nt (r.put op)) else some (.go r)) = some (.go r') → ∃ l, Reads names nt (r.ws.map sy) l (r'.ws.map sy) ∧ r'.out = r.out ++ l := by
      intro nt s a op r r' hs hm h
      split at h
      · rename_i hn
        obtain ⟨r1, h1, h2⟩ := then_go h
        obtain ⟨l1, d1, o1⟩ := ih a r.pop r1 h1
        obtain ⟨l2, d2, o2⟩ := ih nt _ r' h2
        obtain ⟨k, hk⟩ := map_next hs hn
        rw [hk]
        refine ⟨_, .more hm d1 d2, ?_⟩
        rw [o2, show (r1.put op).out = r1.out ++ [⟨op, 0⟩] from rfl, o1, show r.pop.out = r.out from rfl]
        simp only [List.append_assoc]
      · rename_i hn
        rw [go1 h]
        exact ⟨[], .rest hm (by rw [next_sy]; exact hn), by rw [List.append_nil]⟩
    have un : ∀ (s : Bs) (a : Nt) (op : Int) (r r' : Rd), s ≠ [] → r.next = s → thenDo (run names last n a r.pop) (fun r => some (.go (r.put op))) = some (.go r') → ∃ l k, Reads names a (r.pop.ws.map sy) l (r'.ws.map sy) ∧ r.ws.map sy = (k, s) :: r.pop.ws.map sy ∧ r'.out = r.out ++ (l ++ [(⟨op, 0⟩ : Tk)]) := by
      intro s a op r r' hs hn h
      obtain ⟨r1, h1, h2⟩ := then_go h
      obtain ⟨l1, d1, o1⟩ := ih a r.pop r1 h1
      obtain ⟨k, hk⟩ := map_next hs hn
      rw [go1 h2]
      refine ⟨l1, k, d1, hk, ?_⟩
      rw [show (r1.put op).out = r1.out ++ [⟨op, 0⟩] from rfl, o1, show r.pop.out = r.out from rfl, List.append_assoc]
    have modal : ∀ (s s2 : Bs) (op : Int) (r r' : Rd), s ≠ [] → s2 ≠ [] → (s, s2, op) ∈ modals → r.next = s → thenDo (run names last n .plus r.pop) (fun r => r.want last s2 (fun r => thenDo (run names last n .unary r) (fun r => some (.go (r.put op))))) = some (.go r') → ∃ l, Reads names .unary (r.ws.map sy) l (r'.ws.map sy) ∧ r'.out = r.out ++ l := by
      intro s s2 op r r' hs hs2 hm hn h
      obtain ⟨r1, h1, h2⟩ := then_go h
      obtain ⟨l1, d1, o1⟩ := ih .plus r.pop r1 h1
      obtain ⟨h4, h6⟩ := want_go2 hs2 h2
      obtain ⟨l2, k2, d2, -, o2⟩ : ∃ l2 k2, Reads names .unary (r1.pop.ws.map sy) l2 (r'.ws.map sy) ∧ r1.ws.map sy = (k2, s2) :: r1.pop.ws.map sy ∧ r'.out = r1.out ++ (l2 ++ [(⟨op, 0⟩ : Tk)]) := un s2 .unary op r1 r' hs2 h4 h6
      obtain ⟨k1, hk1⟩ := map_next hs hn
      obtain ⟨k2', hk2⟩ := map_next hs2 h4
      rw [hk1]
      rw [hk2] at d1
      refine ⟨_, .modal hm d1 d2, ?_⟩
      rw [o2, o1, show r.pop.out = r.out from rfl]
      simp only [List.append_assoc]
    have paren : ∀ (s s2 : Bs) (a : Nt) (f : Rd → Rd) (r r' : Rd), s ≠ [] → s2 ≠ [] → (∀ q, (f q).ws = q.ws) → r.next = s → thenDo (run names last n a r.pop) (fun r => r.want last s2 (fun r => some (.go (f r)))) = some (.go r') → ∃ l k k2 q, r.ws.map sy = (k, s) :: r.pop.ws.map sy ∧ Reads names a (r.pop.ws.map sy) l ((k2, s2) :: r'.ws.map sy) ∧ q.out = r.out ++ l ∧ r' = f q := by
      intro s s2 a f r r' hs hs2 hf hn h
      obtain ⟨r1, h1, h2⟩ := then_go h
      obtain ⟨l1, d1, o1⟩ := ih a r.pop r1 h1
      obtain ⟨h4, h6⟩ := want_go2 hs2 h2
      obtain ⟨k1, hk1⟩ := map_next hs hn
      obtain ⟨k2, hk2⟩ := map_next hs2 h4
      have h7 := go1 h6
      refine ⟨l1, k1, k2, r1.pop, hk1, ?_, ?_, h7⟩
      · rw [h7, hf, ← hk2]; exact d1
      · exact o1
    have word : ∀ (s : Bs) (op : Int) (r r' : Rd), s ≠ [] → (s, op) ∈ words0 → r.next = s → (some (End.go (r.put op).pop) : Option End) = some (.go r') → ∃ l, Reads names .atom (r.ws.map sy) l (r'.ws.map sy) ∧ r'.out = r.out ++ l := by
      intro s op r r' hs hm hn h
      obtain ⟨k, hk⟩ := map_next hs hn
      rw [go1 h, hk]
      exact ⟨_, .word hm, rfl⟩
    intro nt r r' h
    cases nt with
    | iff => rw [run] at h; exact two _ _ _ r r' rfl h
    | or => rw [run] at h; exact two _ _ _ r r' rfl h
    | and => rw [run] at h; exact two _ _ _ r r' rfl h
    | plus => rw [run] at h; exact two _ _ _ r r' rfl h
    | seq => rw [run] at h; exact two _ _ _ r r' rfl h
    | star => rw [run] at h; exact two _ _ _ r r' rfl h
    | moreIff => rw [run] at h; exact more _ _ _ _ r r' (by decide) rfl h
    | moreOr => rw [run] at h; exact more _ _ _ _ r r' (by decide) rfl h
    | moreAnd => rw [run] at h; exact more _ _ _ _ r r' (by decide) rfl h
    | morePlus => rw [run] at h; exact more _ _ _ _ r r' (by decide) rfl h
    | moreSeq => rw [run] at h; exact more _ _ _ _ r r' (by decide) rfl h
    | stars =>
      rw [run] at h
      split at h
      · rename_i hn
        obtain ⟨l, d, o⟩ := ih .stars _ r' h
        obtain ⟨k, hk⟩ := map_next (by decide) hn
        rw [hk]
        refine ⟨_, .star d, ?_⟩
        rw [o, show (r.pop.put 23).out = r.out ++ [⟨23, 0⟩] from rfl, List.append_assoc]
      · rename_i hn
        rw [go1 h]
        exact ⟨[], .unstar (by rw [next_sy]; exact hn), by rw [List.append_nil]⟩
    | imp =>
      rw [run] at h
      obtain ⟨r1, h1, h2⟩ := then_go h
      obtain ⟨l1, d1, o1⟩ := ih .or r r1 h1
      split at h2
      · rename_i hn
        obtain ⟨l2, k, d2, hk, o2⟩ := un _ .imp 13 r1 r' (by decide) hn h2
        rw [hk] at d1
        refine ⟨_, .right rfl rfl d1 d2, ?_⟩
        rw [o2, o1]; simp only [List.append_assoc]
      · rename_i hn
        rw [go1 h2]
        exact ⟨l1, .one rfl d1 (by rw [next_sy]; exact if_neg hn), o1⟩
    | til =>
      rw [run] at h
      obtain ⟨r1, h1, h2⟩ := then_go h
      obtain ⟨l1, d1, o1⟩ := ih .unary r r1 h1
      split at h2
      · rename_i hn
        obtain ⟨l2, k, d2, hk, o2⟩ := un _ .til 15 r1 r' (by decide) hn h2
        rw [hk] at d1
        refine ⟨_, .right rfl rfl d1 d2, ?_⟩
        rw [o2, o1]; simp only [List.append_assoc]
      · rename_i hn0
        split at h2
        · rename_i hn
          obtain ⟨l2, k, d2, hk, o2⟩ := un _ .til 16 r1 r' (by decide) hn h2
          rw [hk] at d1
          refine ⟨_, .right rfl rfl d1 d2, ?_⟩
          rw [o2, o1]; simp only [List.append_assoc]
        · rename_i hn
          rw [go1 h2]
          exact ⟨l1, .one rfl d1 (by rw [next_sy]; show (if r1.next = [85] then some (15 : Int) else if r1.next = [82] then some 16 else none) = none; rw [if_neg hn0, if_neg hn]), o1⟩
    | unary =>
      have pre : ∀ (s : Bs) (op : Int), s ≠ [] → (s, op) ∈ pres → r.next = s → thenDo (run names last n .unary r.pop) (fun r => some (.go (r.put op))) = some (.go r') → ∃ l, Reads names .unary (r.ws.map sy) l (r'.ws.map sy) ∧ r'.out = r.out ++ l := by
        intro s op hs hm hn h
        obtain ⟨l, k, d, hk, o⟩ := un s .unary op r r' hs hn h
        rw [hk]
        exact ⟨_, .pre hm d, o⟩
      rw [run] at h
      split at h
      · rename_i hn; exact pre _ _ (by decide) (by decide) hn h
      rename_i n1
      split at h
      · rename_i hn; exact pre _ _ (by decide) (by decide) hn h
      rename_i n2
      split at h
      · rename_i hn; exact pre _ _ (by decide) (by decide) hn h
      rename_i n3
      split at h
      · rename_i hn; exact pre _ _ (by decide) (by decide) hn h
      rename_i n4
      split at h
      · rename_i hn; exact pre _ _ (by decide) (by decide) hn h
      rename_i n5
      split at h
      · rename_i hn; exact modal _ _ _ r r' (by decide) (by decide) (by decide) hn h
      rename_i n6
      split at h
      · rename_i hn; exact modal _ _ _ r r' (by decide) (by decide) (by decide) hn h
      rename_i n7
      obtain ⟨l, d, o⟩ := ih .atom r r' h
      refine ⟨l, .atom ?_ ?_ d, o⟩
      · rw [next_sy]
        intro p hp
        simp only [pres, List.mem_cons, List.not_mem_nil, or_false] at hp
        rcases hp with rfl | rfl | rfl | rfl | rfl <;> assumption
      · rw [next_sy]
        intro p hp
        simp only [modals, List.mem_cons, List.not_mem_nil, or_false] at hp
        rcases hp with rfl | rfl <;> assumption
    | atom =>
      rw [run] at h
      split at h
      · rename_i hn; exact word _ _ r r' (by decide) (by decide) hn h
      rename_i n1
      split at h
      · rename_i hn; exact word _ _ r r' (by decide) (by decide) hn h
      rename_i n2
      split at h
      · rename_i hn; exact word _ _ r r' (by decide) (by decide) hn h
      rename_i n3
      split at h
      · rename_i hn
        obtain ⟨l, k, k2, q, hk, d, o, e⟩ := paren _ _ .iff (fun q => q) r r' (by decide) (by decide) (fun q => rfl) hn h
        rw [hk]
        exact ⟨_, .paren d, by rw [e]; exact o⟩
      · rename_i n4
        obtain ⟨i, s, ws, h1, h2, h3, h4, h5, h6⟩ := name_go2 h
        rw [h1, h4]
        refine ⟨_, .name ?_ (by rw [← h6]; exact n4) h2 h3, h5⟩
        intro p hp
        simp only [words0, List.mem_cons, List.not_mem_nil, or_false] at hp
        rw [← h6]
        rcases hp with rfl | rfl | rfl <;> assumption
    | bare =>
      rw [run] at h
      split at h
      · rename_i hn
        obtain ⟨l, k, k2, q, hk, d, o, e⟩ := paren _ _ .iff (fun q => q.put 19) r r' (by decide) (by decide) (fun q => rfl) hn h
        rw [hk]
        exact ⟨_, .step d, by rw [e, show (q.put 19).out = q.out ++ [⟨19, 0⟩] from rfl, o, List.append_assoc]⟩
      split at h
      · rename_i hn
        obtain ⟨l, k, d, hk, o⟩ := un _ .unary 20 r r' (by decide) hn h
        rw [hk]
        exact ⟨_, .test d, o⟩
      split at h
      · rename_i hn
        obtain ⟨l, k, k2, q, hk, d, o, e⟩ := paren _ _ .plus (fun q => q) r r' (by decide) (by decide) (fun q => rfl) hn h
        rw [hk]
        exact ⟨_, .group d, by rw [e]; exact o⟩
      · cases h
end Go.Proofs.YtaogoabnidbbpaaDoor.PText
/-! TextLexes -/
namespace Go.Proofs.YtaogoabnidbbpaaDoor.PText
open Go.RowKit Go.Proofs.YtaogoabnidbbpaaDoorW.PrintWords Go.Proofs.YtaogoabnidbbpaaDoorW.PrintLast Go.Proofs.YtaogoabnidbbpaaDoorW.PrintMore
set_option linter.unusedVariables false
set_option linter.unusedSimpArgs false
inductive LexR : Bs → List Sy → Prop
  | nil : LexR [] []
  | blank {t : Bs} {ws : List Sy} : LexR t ws → LexR (32 :: t) ws
  | word {c : UInt8} {t : Bs} {ws : List Sy} : c ≠ 32 → firstL (c :: t) ≠ [] → LexR ((c :: t).drop (firstL (c :: t)).length) ws → LexR (c :: t) (((sortL (firstL (c :: t))).1, firstL (c :: t)) :: ws)
theorem sy_mk (k : Int) (w : Bs) (i : Int) : sy ⟨k, bytesB w, i⟩ = (k, w) := rfl
theorem lex_from {s : Bs} {l : List Sy} (h : LexR s l) : ∀ n i, s.length ≤ n → ∃ ws, lexF n s i = .ok ws ∧ ws.map sy = l := by
  induction h with
  | nil => intro n i _; exact ⟨[], lexF_nil n i, rfl⟩
  | @blank t l h ih =>
    intro n i hn
    rw [List.length_cons] at hn
    obtain ⟨n, rfl⟩ : ∃ m, n = m + 1 := ⟨n - 1, by omega⟩
    obtain ⟨ws, h1, h2⟩ := ih n (i + 1) (by omega)
    exact ⟨ws, by rw [lexF_cons, if_pos rfl, h1], h2⟩
  | @word c t l hc hne h ih =>
    intro n i hn
    rw [List.length_cons] at hn
    obtain ⟨n, rfl⟩ : ∃ m, n = m + 1 := ⟨n - 1, by omega⟩
    have h4 : 1 ≤ (firstL (c :: t)).length := List.length_pos_iff.2 hne
    obtain ⟨ws, h1, h2⟩ := ih n (i + (firstL (c :: t)).length) (by rw [List.length_drop, List.length_cons]; omega)
    refine ⟨⟨(sortL (firstL (c :: t))).1, bytesB (firstL (c :: t)), (i : Int)⟩ :: ws, by rw [lexF_cons, if_neg hc, if_neg hne, h1], ?_⟩
    rw [List.map_cons, sy_mk, h2]
/-- What may stand behind a text and turn none of its words. -/
def Stop (v : Bs) : Prop := v = [] ∨ ∃ c t, v = c :: t ∧ (c = 32 ∨ c = 41 ∨ c = 42 ∨ c = 62 ∨ c = 93 ∨ c = 125)
theorem stop_word {c : UInt8} (h : c = 32 ∨ c = 41 ∨ c = 42 ∨ c = 62 ∨ c = 93 ∨ c = 125) : wordB c = false := by
  rcases h with rfl | rfl | rfl | rfl | rfl | rfl <;> decide
theorem head_app {u v : Bs} (h : Stop v) : headL (u ++ v) = headL u := by
  unfold headL
  rw [List.takeWhile_append]
  split
  · rename_i hl
    rcases h with rfl | ⟨c, t, rfl, hc⟩
    · rw [List.takeWhile_nil, List.append_nil]
      exact (List.IsPrefix.eq_of_length (List.takeWhile_prefix _) hl).symm
    · rw [List.takeWhile_cons, if_neg (by rw [stop_word hc]; decide), List.append_nil]
      exact (List.IsPrefix.eq_of_length (List.takeWhile_prefix _) hl).symm
  · rfl
theorem pre_app {u v x : Bs} (hx : x ∈ signs) (h0 : u ≠ []) (h1 : u ≠ [45]) (h2 : u ≠ [60, 45]) (h : Stop v) : x.isPrefixOf (u ++ v) = x.isPrefixOf u := by
  rw [Bool.eq_iff_iff, List.isPrefixOf_iff_prefix, List.isPrefixOf_iff_prefix]
  refine ⟨fun hp => ?_, fun hp => hp.trans (List.prefix_append _ _)⟩
  rcases Nat.lt_or_ge u.length x.length with hl | hl
  · exfalso
    rcases h with rfl | ⟨c, t, rfl, hc⟩
    · rw [List.append_nil] at hp; have := hp.length_le; omega
    · have hu1 : 1 ≤ u.length := List.length_pos_iff.2 h0
      rcases u with _ | ⟨a, _ | ⟨b, u⟩⟩
      · exact h0 rfl
      · simp only [signs, List.mem_cons, List.not_mem_nil, or_false] at hx
        rcases hx with rfl | rfl | rfl | rfl | rfl | rfl | rfl | rfl | rfl | rfl | rfl | rfl | rfl | rfl | rfl | rfl | rfl
        all_goals first | (simp at hl; done) | skip
        · obtain ⟨z, hz⟩ := hp
          simp at hz
          obtain ⟨rfl, -⟩ := hz
          exact h1 rfl
        · obtain ⟨z, hz⟩ := hp
          simp at hz
          obtain ⟨rfl, rfl, -⟩ := hz
          rcases hc with hc | hc | hc | hc | hc | hc <;> exact absurd hc (by decide)
      · simp only [signs, List.mem_cons, List.not_mem_nil, or_false] at hx
        rcases hx with rfl | rfl | rfl | rfl | rfl | rfl | rfl | rfl | rfl | rfl | rfl | rfl | rfl | rfl | rfl | rfl | rfl
        all_goals first | (simp only [List.length_cons, List.length_nil] at hl; omega) | skip
        obtain ⟨z, hz⟩ := hp
        rcases u with _ | ⟨d, u⟩
        · simp at hz
          obtain ⟨rfl, rfl, -⟩ := hz
          exact h2 rfl
        · simp only [List.length_cons, List.length_nil] at hl; omega
  · exact List.prefix_of_prefix_length_le hp (List.prefix_append _ _) hl
theorem sign_app {u v : Bs} (h0 : u ≠ []) (h1 : u ≠ [45]) (h2 : u ≠ [60, 45]) (h : Stop v) : signL (u ++ v) = signL u := by
  unfold signL
  have : ∀ (xs : List Bs) (b : Bs), (∀ x ∈ xs, x ∈ signs) → xs.foldl (longer (u ++ v)) b = xs.foldl (longer u) b := by
    intro xs
    induction xs with
    | nil => intro b _; rfl
    | cons x xs ih =>
      intro b hx
      rw [List.foldl_cons, List.foldl_cons]
      rw [show longer (u ++ v) b x = longer u b x by unfold longer; rw [pre_app (hx x List.mem_cons_self) h0 h1 h2 h]]
      exact ih _ (fun y hy => hx y (List.mem_cons_of_mem _ hy))
  exact this signs [] (fun _ h => h)
theorem first_app {u v : Bs} (h0 : u ≠ []) (h1 : u ≠ [45]) (h2 : u ≠ [60, 45]) (h : Stop v) : firstL (u ++ v) = firstL u := by
  unfold firstL
  rw [head_app h, sign_app h0 h1 h2 h]
theorem no_dash {ws : List Sy} : ¬ LexR [45] ws := by
  intro h
  cases h with
  | word hc hne h => exact hne (by decide)
theorem lex_app {u v : Bs} {us vs : List Sy} (hv : Stop v) (hu : LexR u us) (h : LexR v vs) : LexR (u ++ v) (us ++ vs) := by
  induction hu with
  | nil => exact h
  | blank _ ih => exact .blank ih
  | @word c t ws hc hne h1 ih =>
    have h45 : c :: t ≠ [45] := fun e => by rw [e] at hne; exact hne (by decide)
    have h60 : c :: t ≠ [60, 45] := fun e => by rw [e, show firstL [60, 45] = [60] by decide] at h1; exact no_dash h1
    have hf := first_app (u := c :: t) (by simp) h45 h60 hv
    have hl := (first_pre (c :: t)).length_le
    have hd : (c :: (t ++ v)).drop (firstL (c :: t)).length = (c :: t).drop (firstL (c :: t)).length ++ v := by
      rw [← List.cons_append, List.drop_append_of_le_length hl]
    rw [← List.cons_append] at hd
    have hg := @LexR.word c (t ++ v) (ws ++ vs) hc (by rw [← List.cons_append, hf]; exact hne) (by rw [← List.cons_append, hf, hd]; exact ih)
    rw [← List.cons_append, hf] at hg
    exact hg
theorem head_sign {c : UInt8} (hw : wordB c = false) (t : Bs) : headL (c :: t) = [] := by
  unfold headL
  rw [List.takeWhile_cons, if_neg (by rw [hw]; decide)]
theorem takeW_all {w : Bs} (h : w.all wordB = true) : w.takeWhile wordB = w := by
  induction w with
  | nil => rfl
  | cons a w ih =>
    simp only [List.all_cons, Bool.and_eq_true] at h
    rw [List.takeWhile_cons, if_pos h.1, ih h.2]
/-- The one-sign words that no longer word begins with. -/
theorem first_one {c : UInt8} (hc : c = 40 ∨ c = 41 ∨ c = 91 ∨ c = 93 ∨ c = 123 ∨ c = 125 ∨ c = 62 ∨ c = 33 ∨ c = 63 ∨ c = 38 ∨ c = 124 ∨ c = 43 ∨ c = 59 ∨ c = 42) (t : Bs) : firstL (c :: t) = [c] := by
  have hw : wordB c = false := by rcases hc with rfl | rfl | rfl | rfl | rfl | rfl | rfl | rfl | rfl | rfl | rfl | rfl | rfl | rfl <;> decide
  unfold firstL
  rw [if_pos (head_sign hw t)]
  unfold signL signs
  rcases hc with rfl | rfl | rfl | rfl | rfl | rfl | rfl | rfl | rfl | rfl | rfl | rfl | rfl | rfl <;> simp [longer, List.isPrefixOf]
theorem lex_one {c : UInt8} {t : Bs} {ws : List Sy} (hc : c = 40 ∨ c = 41 ∨ c = 91 ∨ c = 93 ∨ c = 123 ∨ c = 125 ∨ c = 62 ∨ c = 33 ∨ c = 63 ∨ c = 38 ∨ c = 124 ∨ c = 43 ∨ c = 59 ∨ c = 42) (h : LexR t ws) : LexR (c :: t) ((0, [c]) :: ws) := by
  have hf := first_one hc t
  have h32 : c ≠ 32 := by rcases hc with rfl | rfl | rfl | rfl | rfl | rfl | rfl | rfl | rfl | rfl | rfl | rfl | rfl | rfl <;> decide
  have hs : (sortL [c]).1 = 0 := by rcases hc with rfl | rfl | rfl | rfl | rfl | rfl | rfl | rfl | rfl | rfl | rfl | rfl | rfl | rfl <;> decide
  have := LexR.word (c := c) (t := t) (ws := ws) h32 (by rw [hf]; simp) (by rw [hf]; exact h)
  rw [hf, hs] at this
  exact this
/-- '<', where no '-' stands behind. -/
theorem lex_less {t : Bs} {ws : List Sy} (ht : ∀ u, t ≠ 45 :: u) (h : LexR t ws) : LexR (60 :: t) ((0, [60]) :: ws) := by
  have hf : firstL (60 :: t) = [60] := by
    unfold firstL
    rw [if_pos (head_sign (by decide) _)]
    unfold signL signs
    rcases t with _ | ⟨a, t⟩
    · decide
    · have ha : ¬ 45 = a := fun e => ht t (by rw [e])
      simp [longer, List.isPrefixOf, ha]
  have := LexR.word (c := 60) (t := t) (ws := ws) (by decide) (by rw [hf]; simp) (by rw [hf]; exact h)
  rw [hf, show (sortL [60]).1 = 0 by decide] at this
  exact this
/-- '->' and '<->'. -/
theorem lex_imp {t : Bs} {ws : List Sy} (h : LexR t ws) : LexR (45 :: 62 :: t) ((0, [45, 62]) :: ws) := by
  have hf : firstL (45 :: 62 :: t) = [45, 62] := by
    unfold firstL
    rw [if_pos (head_sign (by decide) _)]
    unfold signL signs
    simp [longer, List.isPrefixOf]
  have := LexR.word (c := 45) (t := 62 :: t) (ws := ws) (by decide) (by rw [hf]; simp) (by rw [hf]; exact h)
  rw [hf, show (sortL [45, 62]).1 = 0 by decide] at this
  exact this
theorem lex_iff {t : Bs} {ws : List Sy} (h : LexR t ws) : LexR (60 :: 45 :: 62 :: t) ((0, [60, 45, 62]) :: ws) := by
  have hf : firstL (60 :: 45 :: 62 :: t) = [60, 45, 62] := by
    unfold firstL
    rw [if_pos (head_sign (by decide) _)]
    unfold signL signs
    simp [longer, List.isPrefixOf]
  have := LexR.word (c := 60) (t := 45 :: 62 :: t) (ws := ws) (by decide) (by rw [hf]; simp) (by rw [hf]; exact h)
  rw [hf, show (sortL [60, 45, 62]).1 = 0 by decide] at this
  exact this
/-- A key or a name, with no sign of words behind it. -/
theorem lex_word {w v : Bs} {ws : List Sy} (hw : w ≠ []) (hall : w.all wordB = true) (hs : (sortL w).2 = true) (hv : ∀ c t, v = c :: t → wordB c = false) (h : LexR v ws) : LexR (w ++ v) (((sortL w).1, w) :: ws) := by
  have hh : headL (w ++ v) = w := by
    unfold headL
    rw [List.takeWhile_append]
    have h1 : w.takeWhile wordB = w := takeW_all hall
    rw [h1, if_pos rfl]
    rcases v with _ | ⟨c, t⟩
    · simp
    · rw [List.takeWhile_cons, if_neg (by rw [hv c t rfl]; decide), List.append_nil]
  have hf : firstL (w ++ v) = w := by
    unfold firstL
    rw [hh, if_neg hw, if_pos hs]
  rcases w with _ | ⟨c, t⟩
  · exact absurd rfl hw
  · have hc : c ≠ 32 := by
      intro e
      subst e
      simp only [List.all_cons, Bool.and_eq_true] at hall
      exact absurd hall.1 (by decide)
    rw [List.cons_append] at hf ⊢
    have := LexR.word (c := c) (t := t ++ v) (ws := ws) hc (by rw [hf]; simp) (by rw [hf, ← List.cons_append, List.drop_left]; exact h)
    rw [hf] at this
    exact this
/-- How a text begins, whose first word is known. -/
theorem lex_head {s : Bs} {k : Int} {w : Bs} {ws : List Sy} (h : LexR s ((k, w) :: ws)) : ∀ c t, s = c :: t → c = 32 ∨ ∃ u, w = c :: u := by
  intro c t hs
  subst hs
  cases h with
  | blank _ => exact .inl rfl
  | word hc hne h1 =>
    right
    have hp := first_pre (c :: t)
    obtain ⟨z, hz⟩ := hp
    cases hw : firstL (c :: t) with
    | nil => exact absurd hw hne
    | cons a u =>
      rw [hw] at hz
      rw [List.cons_append] at hz
      injection hz with h3 h4
      exact ⟨u, by rw [h3]⟩
end Go.Proofs.YtaogoabnidbbpaaDoor.PText
/-! TextRuns -/
namespace Go.Proofs.YtaogoabnidbbpaaDoor.PText
open Go.RowKit Go.Proofs.YtaogoabnidbbpaaDoorW.PrintWords Go.Proofs.YtaogoabnidbbpaaDoorW.PrintLast Go.Proofs.YtaogoabnidbbpaaDoorW.PrintMore
set_option linter.unusedVariables false
theorem reads_len {names : List ByteArray} {nt : Nt} {ws ws1 : List Sy} {l : List Tk} (h : Reads names nt ws l ws1) : ws1.length ≤ ws.length := by
  induction h with
  | left _ _ _ i1 i2 => omega
  | more _ _ _ i1 i2 => rw [List.length_cons]; omega
  | rest _ _ => exact Nat.le_refl _
  | star _ i => rw [List.length_cons]; omega
  | unstar _ => exact Nat.le_refl _
  | one _ _ _ i => exact i
  | right _ _ _ _ i1 i2 => rw [List.length_cons] at i1; omega
  | pre _ _ i => rw [List.length_cons]; omega
  | modal _ _ _ i1 i2 => rw [List.length_cons] at i1 ⊢; omega
  | atom _ _ _ i => exact i
  | word _ => rw [List.length_cons]; omega
  | paren _ i => rw [List.length_cons] at i ⊢; omega
  | name _ _ _ _ => rw [List.length_cons]; omega
  | step _ i => rw [List.length_cons] at i ⊢; omega
  | test _ i => rw [List.length_cons]; omega
  | group _ i => rw [List.length_cons] at i ⊢; omega
theorem run_left {nt b m : Nt} (h : lefty nt = some (b, m)) (names : List ByteArray) (last : Int) (n : Nat) (r : Rd) : run names last (n + 1) nt r = thenDo (run names last n b r) (run names last n m) := by
  cases nt <;> cases h <;> rw [run]
theorem run_more {nt b : Nt} {s : Bs} {op : Int} (h : morely nt = some (s, op, b)) (names : List ByteArray) (last : Int) (n : Nat) (r : Rd) :
    run names last (n + 1) nt r = if r.next = s then thenDo (run names last n b r.pop) (fun r => run names last n nt (r.put op)) else some (.go r) := by
  cases nt <;> cases h <;> rw [run]
theorem more_ne {nt b : Nt} {s : Bs} {op : Int} (h : morely nt = some (s, op, b)) : s ≠ [] := by
  cases nt <;> cases h <;> decide
theorem righty_imp (s : Bs) : righty .imp s = if s = [45, 62] then some 13 else none := rfl
theorem righty_til (s : Bs) : righty .til s = if s = [85] then some 15 else if s = [82] then some 16 else none := rfl
theorem run_right {nt b : Nt} (h : rightb nt = some b) (names : List ByteArray) (last : Int) (n : Nat) (r : Rd) :
    run names last (n + 1) nt r = thenDo (run names last n b r) (fun r => match righty nt r.next with | some op => thenDo (run names last n nt r.pop) (fun r => some (.go (r.put op))) | none => some (.go r)) := by
  cases nt with
  | imp =>
    cases h
    rw [run]
    congr 1; funext r
    rw [righty_imp]
    by_cases h : r.next = [45, 62]
    · rw [if_pos h, if_pos h]
    · rw [if_neg h, if_neg h]
  | til =>
    cases h
    rw [run]
    congr 1; funext r
    rw [righty_til]
    by_cases h : r.next = [85]
    · rw [if_pos h, if_pos h]
    · rw [if_neg h, if_neg h]
      by_cases h : r.next = [82]
      · rw [if_pos h, if_pos h]
      · rw [if_neg h, if_neg h]
  | _ => cases h
theorem then_to {x : Option End} {f : Rd → Option End} {r1 : Rd} (h : x = some (.go r1)) : thenDo x f = f r1 := by rw [h]; rfl
theorem want_to {r : Rd} {s : Bs} (h : r.next = s) (last : Int) (f : Rd → Option End) : r.want last s f = f r.pop := by unfold Rd.want; rw [if_pos h]
/-- It does what is asked, from some number of rounds on. -/
def Gets (names : List ByteArray) (nt : Nt) (ws : List Sy) (l : List Tk) (ws1 : List Sy) (n : Nat) : Prop :=
  ∀ (last : Int) (r : Rd), r.ws.map sy = ws → ∃ r', run names last n nt r = some (.go r') ∧ r'.ws.map sy = ws1 ∧ r'.out = r.out ++ l
theorem upTo {n m : Nat} (h : m + 1 ≤ n) : ∃ k, n = k + 1 ∧ m ≤ k := ⟨n - 1, by omega, by omega⟩
set_option maxHeartbeats 1000000 in
theorem reads_run {names : List ByteArray} {nt : Nt} {ws ws1 : List Sy} {l : List Tk} (h : Reads names nt ws l ws1) : ∃ n0, ∀ n, n0 ≤ n → Gets names nt ws l ws1 n := by
  induction h with
  | @left nt b m ws ws1 ws2 l1 l2 hl d1 d2 i1 i2 =>
    obtain ⟨n1, g1⟩ := i1
    obtain ⟨n2, g2⟩ := i2
    refine ⟨max n1 n2 + 1, fun n hn last r hr => ?_⟩
    obtain ⟨k, rfl, hk⟩ := upTo hn
    obtain ⟨r1, e1, w1, o1⟩ := g1 k (by omega) last r hr
    obtain ⟨r2, e2, w2, o2⟩ := g2 k (by omega) last r1 w1
    exact ⟨r2, by rw [run_left hl, then_to e1, e2], w2, by rw [o2, o1, List.append_assoc]⟩
  | @more nt b s op k ws ws1 ws2 l1 l2 hm d1 d2 i1 i2 =>
    obtain ⟨n1, g1⟩ := i1
    obtain ⟨n2, g2⟩ := i2
    refine ⟨max n1 n2 + 1, fun n hn last r hr => ?_⟩
    obtain ⟨k, rfl, hk⟩ := upTo hn
    obtain ⟨p1, p2⟩ := pop_sy hr
    obtain ⟨r1, e1, w1, o1⟩ := g1 k (by omega) last r.pop p2
    obtain ⟨r2, e2, w2, o2⟩ := g2 k (by omega) last (r1.put op) w1
    refine ⟨r2, by rw [run_more hm, if_pos p1, then_to e1, e2], w2, ?_⟩
    rw [o2, show (r1.put op).out = r1.out ++ [⟨op, 0⟩] from rfl, o1, show r.pop.out = r.out from rfl]
    simp only [List.append_assoc]
  | @rest nt b s op ws hm hne =>
    refine ⟨1, fun n hn last r hr => ?_⟩
    obtain ⟨k, rfl, hk⟩ := upTo hn
    exact ⟨r, by rw [run_more hm, if_neg (by rw [← next_sy, hr]; exact hne)], hr, by rw [List.append_nil]⟩
  | @star k ws ws1 l d i =>
    obtain ⟨n1, g1⟩ := i
    refine ⟨n1 + 1, fun n hn last r hr => ?_⟩
    obtain ⟨k, rfl, hk⟩ := upTo hn
    obtain ⟨p1, p2⟩ := pop_sy hr
    obtain ⟨r1, e1, w1, o1⟩ := g1 k (by omega) last (r.pop.put 23) p2
    refine ⟨r1, by rw [run, if_pos p1, e1], w1, ?_⟩
    rw [o1, show (r.pop.put 23).out = r.out ++ [⟨23, 0⟩] from rfl, List.append_assoc]
  | @unstar ws hne =>
    refine ⟨1, fun n hn last r hr => ?_⟩
    obtain ⟨k, rfl, hk⟩ := upTo hn
    exact ⟨r, by rw [run, if_neg (by rw [← next_sy, hr]; exact hne)], hr, by rw [List.append_nil]⟩
  | @one nt b ws ws1 l hb d hn0 i =>
    obtain ⟨n1, g1⟩ := i
    refine ⟨n1 + 1, fun n hn last r hr => ?_⟩
    obtain ⟨k, rfl, hk⟩ := upTo hn
    obtain ⟨r1, e1, w1, o1⟩ := g1 k (by omega) last r hr
    refine ⟨r1, ?_, w1, o1⟩
    rw [run_right hb, then_to e1, ← next_sy, w1, hn0]
  | @right nt b s op k ws ws1 ws2 l1 l2 hb hs d1 d2 i1 i2 =>
    obtain ⟨n1, g1⟩ := i1
    obtain ⟨n2, g2⟩ := i2
    refine ⟨max n1 n2 + 1, fun n hn last r hr => ?_⟩
    obtain ⟨k, rfl, hk⟩ := upTo hn
    obtain ⟨r1, e1, w1, o1⟩ := g1 k (by omega) last r hr
    obtain ⟨p1, p2⟩ := pop_sy w1
    obtain ⟨r2, e2, w2, o2⟩ := g2 k (by omega) last r1.pop p2
    refine ⟨r2.put op, ?_, w2, ?_⟩
    · rw [run_right hb, then_to e1, p1, hs]
      simp only
      rw [then_to e2]
    · rw [show (r2.put op).out = r2.out ++ [⟨op, 0⟩] from rfl, o2, show r1.pop.out = r1.out from rfl, o1]
      simp only [List.append_assoc]
  | @pre s op k ws ws1 l hm d i =>
    obtain ⟨n1, g1⟩ := i
    refine ⟨n1 + 1, fun n hn last r hr => ?_⟩
    obtain ⟨k, rfl, hk⟩ := upTo hn
    obtain ⟨p1, p2⟩ := pop_sy hr
    obtain ⟨r1, e1, w1, o1⟩ := g1 k (by omega) last r.pop p2
    refine ⟨r1.put op, ?_, w1, ?_⟩
    · simp only [pres, List.mem_cons, List.not_mem_nil, or_false, Prod.mk.injEq] at hm
      rw [run, p1]
      rcases hm with ⟨rfl, rfl⟩ | ⟨rfl, rfl⟩ | ⟨rfl, rfl⟩ | ⟨rfl, rfl⟩ | ⟨rfl, rfl⟩ <;> simp [then_to e1]
    · rw [show (r1.put op).out = r1.out ++ [⟨op, 0⟩] from rfl, o1, show r.pop.out = r.out from rfl, List.append_assoc]
  | @modal o s op k1 k2 ws ws1 ws2 l1 l2 hm d1 d2 i1 i2 =>
    obtain ⟨n1, g1⟩ := i1
    obtain ⟨n2, g2⟩ := i2
    refine ⟨max n1 n2 + 1, fun n hn last r hr => ?_⟩
    obtain ⟨k, rfl, hk⟩ := upTo hn
    obtain ⟨p1, p2⟩ := pop_sy hr
    obtain ⟨r1, e1, w1, o1⟩ := g1 k (by omega) last r.pop p2
    obtain ⟨p3, p4⟩ := pop_sy w1
    obtain ⟨r2, e2, w2, o2⟩ := g2 k (by omega) last r1.pop p4
    refine ⟨r2.put op, ?_, w2, ?_⟩
    · simp only [modals, List.mem_cons, List.not_mem_nil, or_false, Prod.mk.injEq] at hm
      rw [run, p1]
      rcases hm with ⟨rfl, rfl, rfl⟩ | ⟨rfl, rfl, rfl⟩ <;> simp [then_to e1, want_to p3, then_to e2]
    · rw [show (r2.put op).out = r2.out ++ [⟨op, 0⟩] from rfl, o2, show r1.pop.out = r1.out from rfl, o1, show r.pop.out = r.out from rfl]
      simp only [List.append_assoc]
  | @atom ws ws1 l h1 h2 d i =>
    obtain ⟨n1, g1⟩ := i
    refine ⟨n1 + 1, fun n hn last r hr => ?_⟩
    obtain ⟨k, rfl, hk⟩ := upTo hn
    obtain ⟨r1, e1, w1, o1⟩ := g1 k (by omega) last r hr
    refine ⟨r1, ?_, w1, o1⟩
    have hx : r.next = nextS ws := by rw [← next_sy, hr]
    rw [run, hx]
    have a1 := h1 ([33], 6) (by decide)
    have a2 := h1 ([88], 7) (by decide)
    have a3 := h1 ([78], 8) (by decide)
    have a4 := h1 ([70], 9) (by decide)
    have a5 := h1 ([71], 10) (by decide)
    have a6 := h2 ([60], [62], 17) (by decide)
    have a7 := h2 ([91], [93], 18) (by decide)
    rw [if_neg a1, if_neg a2, if_neg a3, if_neg a4, if_neg a5, if_neg a6, if_neg a7, e1]
  | @word s op k ws hm =>
    refine ⟨1, fun n hn last r hr => ?_⟩
    obtain ⟨k, rfl, hk⟩ := upTo hn
    obtain ⟨p1, p2⟩ := pop_sy hr
    refine ⟨(r.put op).pop, ?_, p2, rfl⟩
    simp only [words0, List.mem_cons, List.not_mem_nil, or_false, Prod.mk.injEq] at hm
    rw [run, p1]
    rcases hm with ⟨rfl, rfl⟩ | ⟨rfl, rfl⟩ | ⟨rfl, rfl⟩ <;> simp
  | @paren k1 k2 ws ws1 l d i =>
    obtain ⟨n1, g1⟩ := i
    refine ⟨n1 + 1, fun n hn last r hr => ?_⟩
    obtain ⟨k, rfl, hk⟩ := upTo hn
    obtain ⟨p1, p2⟩ := pop_sy hr
    obtain ⟨r1, e1, w1, o1⟩ := g1 k (by omega) last r.pop p2
    obtain ⟨p3, p4⟩ := pop_sy w1
    refine ⟨r1.pop, ?_, p4, o1⟩
    rw [run, p1]
    simp [then_to e1, want_to p3]
  | @name s ws i h1 h2 h3 hi =>
    refine ⟨1, fun n hn last r hr => ?_⟩
    obtain ⟨k, rfl, hk⟩ := upTo hn
    obtain ⟨p1, p2⟩ := pop_sy hr
    refine ⟨(⟨r.ws, r.out ++ [⟨2, (i : Int)⟩]⟩ : Rd).pop, ?_, p2, rfl⟩
    have a1 := h1 ([116, 114, 117, 101], 0) (by decide)
    have a2 := h1 ([102, 97, 108, 115, 101], 1) (by decide)
    have a3 := h1 ([108, 97, 115, 116], 3) (by decide)
    rw [run, p1, if_neg a1, if_neg a2, if_neg a3, if_neg h2]
    unfold Rd.name
    cases hw : r.ws with
    | nil => rw [hw] at hr; cases hr
    | cons w t =>
      rw [hw] at hr
      have hr2 := (List.cons.inj hr).1
      have f0 : w.f0 = 2 := congrArg Prod.fst hr2
      have f1 : w.f1.data.toList = s := congrArg Prod.snd hr2
      simp only
      rw [if_neg (by rw [not_or]; exact ⟨by rw [f1]; exact h3, by rw [f0]; decide⟩)]
      rw [f1, hi]
  | @step k1 k2 ws ws1 l d i =>
    obtain ⟨n1, g1⟩ := i
    refine ⟨n1 + 1, fun n hn last r hr => ?_⟩
    obtain ⟨k, rfl, hk⟩ := upTo hn
    obtain ⟨p1, p2⟩ := pop_sy hr
    obtain ⟨r1, e1, w1, o1⟩ := g1 k (by omega) last r.pop p2
    obtain ⟨p3, p4⟩ := pop_sy w1
    refine ⟨r1.pop.put 19, ?_, p4, ?_⟩
    · rw [run, p1]
      simp [then_to e1, want_to p3]
    · rw [show (r1.pop.put 19).out = r1.out ++ [⟨19, 0⟩] from rfl, o1, show r.pop.out = r.out from rfl, List.append_assoc]
  | @test k1 ws ws1 l d i =>
    obtain ⟨n1, g1⟩ := i
    refine ⟨n1 + 1, fun n hn last r hr => ?_⟩
    obtain ⟨k, rfl, hk⟩ := upTo hn
    obtain ⟨p1, p2⟩ := pop_sy hr
    obtain ⟨r1, e1, w1, o1⟩ := g1 k (by omega) last r.pop p2
    refine ⟨r1.put 20, ?_, w1, ?_⟩
    · rw [run, p1]
      simp [then_to e1]
    · rw [show (r1.put 20).out = r1.out ++ [⟨20, 0⟩] from rfl, o1, show r.pop.out = r.out from rfl, List.append_assoc]
  | @group k1 k2 ws ws1 l d i =>
    obtain ⟨n1, g1⟩ := i
    refine ⟨n1 + 1, fun n hn last r hr => ?_⟩
    obtain ⟨k, rfl, hk⟩ := upTo hn
    obtain ⟨p1, p2⟩ := pop_sy hr
    obtain ⟨r1, e1, w1, o1⟩ := g1 k (by omega) last r.pop p2
    obtain ⟨p3, p4⟩ := pop_sy w1
    refine ⟨r1.pop, ?_, p4, o1⟩
    rw [run, p1]
    simp [then_to e1, want_to p3]
def rank : Nt → Nat
  | .iff => 6 | .imp => 5 | .or => 4 | .and => 3 | .til => 2 | .unary => 1 | .atom => 0 | .plus => 6 | .seq => 5 | .star => 4 | .bare => 3 | _ => 0
theorem run_ws {names : List ByteArray} {last : Int} {n : Nat} {nt : Nt} {r r' : Rd} (h : run names last n nt r = some (.go r')) : r'.ws.length ≤ r.ws.length := by
  obtain ⟨l, d, -⟩ := run_reads names last n nt r r' h
  have := reads_len d
  rwa [List.length_map, List.length_map] at this
theorem pop_ws {r : Rd} (h : 1 ≤ r.ws.length) : r.pop.ws.length + 1 = r.ws.length := by
  show (r.ws.drop 1).length + 1 = _
  rw [List.length_drop]; omega
/-- With rounds enough it comes to an end. -/
theorem run_total (names : List ByteArray) (last : Int) (n : Nat) : ∀ (nt : Nt) (r : Rd), 8 * r.ws.length + rank nt < n → ∃ e, run names last n nt r = some e := by
  induction n with
  | zero => intro nt r h; omega
  | succ n ih =>
    have then_ok : ∀ (a : Nt) (r : Rd) (f : Rd → Option End), 8 * r.ws.length + rank a < n → (∀ r1, r1.ws.length ≤ r.ws.length → ∃ e, f r1 = some e) → ∃ e, thenDo (run names last n a r) f = some e := by
      intro a r f hb hf
      obtain ⟨e1, h1⟩ := ih a r hb
      rw [h1]
      cases e1 with
      | stop x y => exact ⟨_, rfl⟩
      | go r1 => exact hf r1 (run_ws h1)
    have put_ok : ∀ (a : Nt) (s : Bs) (r : Rd) (f : Rd → Rd), s ≠ [] → r.next = s → 8 * r.ws.length ≤ n → rank a < 8 → ∃ e, thenDo (run names last n a r.pop) (fun r => some (.go (f r))) = some e := by
      intro a s r f hs hn hb hr
      have := pop_ws (next_ws hs hn)
      exact then_ok a r.pop _ (by omega) (fun r1 _ => ⟨_, rfl⟩)
    have want_ok : ∀ (a : Nt) (s s2 : Bs) (r : Rd) (f : Rd → Option End), s ≠ [] → s2 ≠ [] → r.next = s → 8 * r.ws.length ≤ n → rank a < 8 → (∀ r1, r1.ws.length + 2 ≤ r.ws.length → ∃ e, f r1 = some e) → ∃ e, thenDo (run names last n a r.pop) (fun r => r.want last s2 f) = some e := by
      intro a s s2 r f hs hs2 hn hb hr hf
      have hp := pop_ws (next_ws hs hn)
      refine then_ok a r.pop _ (by omega) (fun r1 h1 => ?_)
      unfold Rd.want
      split
      · rename_i h2
        have h3 := pop_ws (next_ws hs2 h2)
        exact hf r1.pop (by omega)
      · exact ⟨_, rfl⟩
    have left_ok : ∀ (nt b m : Nt) (r : Rd), lefty nt = some (b, m) → rank b < rank nt → rank m = 0 → 8 * r.ws.length + rank nt < n + 1 → ∃ e, run names last (n + 1) nt r = some e := by
      intro nt b m r hl h1 h2 hb
      rw [run_left hl]
      exact then_ok b r _ (by omega) (fun r1 h3 => ih m r1 (by omega))
    have more_ok : ∀ (nt b : Nt) (s : Bs) (op : Int) (r : Rd), morely nt = some (s, op, b) → rank nt = 0 → rank b < 8 → 8 * r.ws.length + rank nt < n + 1 → ∃ e, run names last (n + 1) nt r = some e := by
      intro nt b s op r hm h1 h2 hb
      rw [run_more hm]
      split
      · rename_i hn
        have hp := pop_ws (next_ws (more_ne hm) hn)
        exact then_ok b r.pop _ (by omega) (fun r1 h3 => ih nt (r1.put op) (by rw [put_ws]; omega))
      · exact ⟨_, rfl⟩
    intro nt r hb
    cases nt with
    | iff => exact left_ok _ _ _ r rfl (by decide) rfl hb
    | or => exact left_ok _ _ _ r rfl (by decide) rfl hb
    | and => exact left_ok _ _ _ r rfl (by decide) rfl hb
    | plus => exact left_ok _ _ _ r rfl (by decide) rfl hb
    | seq => exact left_ok _ _ _ r rfl (by decide) rfl hb
    | star => exact left_ok _ _ _ r rfl (by decide) rfl hb
    | moreIff => exact more_ok _ _ _ _ r rfl rfl (by decide) hb
    | moreOr => exact more_ok _ _ _ _ r rfl rfl (by decide) hb
    | moreAnd => exact more_ok _ _ _ _ r rfl rfl (by decide) hb
    | morePlus => exact more_ok _ _ _ _ r rfl rfl (by decide) hb
    | moreSeq => exact more_ok _ _ _ _ r rfl rfl (by decide) hb
    | stars =>
      rw [run]
      split
      · rename_i hn
        have hp := pop_ws (next_ws (by decide) hn)
        exact ih .stars _ (by rw [put_ws]; simp only [rank] at hb ⊢; omega)
      · exact ⟨_, rfl⟩
    | imp =>
      rw [run]
      simp only [rank] at hb
      refine then_ok .or r _ (by simp only [rank]; omega) (fun r1 h1 => ?_)
      split
      · rename_i hn; exact put_ok .imp _ r1 _ (by decide) hn (by omega) (by decide)
      · exact ⟨_, rfl⟩
    | til =>
      rw [run]
      simp only [rank] at hb
      refine then_ok .unary r _ (by simp only [rank]; omega) (fun r1 h1 => ?_)
      split
      · rename_i hn; exact put_ok .til _ r1 _ (by decide) hn (by omega) (by decide)
      · split
        · rename_i hn; exact put_ok .til _ r1 _ (by decide) hn (by omega) (by decide)
        · exact ⟨_, rfl⟩
    | unary =>
      simp only [rank] at hb
      have modal_ok : ∀ (s s2 : Bs) (op : Int), s ≠ [] → s2 ≠ [] → r.next = s → ∃ e, thenDo (run names last n .plus r.pop) (fun r => r.want last s2 (fun r => thenDo (run names last n .unary r) (fun r => some (.go (r.put op))))) = some e := by
        intro s s2 op hs hs2 hn
        exact want_ok .plus s s2 r _ hs hs2 hn (by omega) (by decide) (fun r1 h1 => then_ok .unary r1 _ (by simp only [rank]; omega) (fun r2 _ => ⟨_, rfl⟩))
      rw [run]
      split
      · rename_i hn; exact put_ok .unary _ r _ (by decide) hn (by omega) (by decide)
      split
      · rename_i hn; exact put_ok .unary _ r _ (by decide) hn (by omega) (by decide)
      split
      · rename_i hn; exact put_ok .unary _ r _ (by decide) hn (by omega) (by decide)
      split
      · rename_i hn; exact put_ok .unary _ r _ (by decide) hn (by omega) (by decide)
      split
      · rename_i hn; exact put_ok .unary _ r _ (by decide) hn (by omega) (by decide)
      split
      · rename_i hn; exact modal_ok _ _ _ (by decide) (by decide) hn
      split
      · rename_i hn; exact modal_ok _ _ _ (by decide) (by decide) hn
      · exact ih .atom r (by simp only [rank]; omega)
    | atom =>
      simp only [rank] at hb
      rw [run]
      split
      · exact ⟨_, rfl⟩
      split
      · exact ⟨_, rfl⟩
      split
      · exact ⟨_, rfl⟩
      split
      · rename_i hn
        exact want_ok .iff _ _ r _ (by decide) (by decide) hn (by omega) (by decide) (fun r1 _ => ⟨_, rfl⟩)
      · unfold Rd.name
        split
        · exact ⟨_, rfl⟩
        · split
          · exact ⟨_, rfl⟩
          · split <;> exact ⟨_, rfl⟩
    | bare =>
      simp only [rank] at hb
      rw [run]
      split
      · rename_i hn
        exact want_ok .iff _ _ r _ (by decide) (by decide) hn (by omega) (by decide) (fun r1 _ => ⟨_, rfl⟩)
      split
      · rename_i hn; exact put_ok .unary _ r _ (by decide) hn (by omega) (by decide)
      split
      · rename_i hn
        exact want_ok .plus _ _ r _ (by decide) (by decide) hn (by omega) (by decide) (fun r1 _ => ⟨_, rfl⟩)
      · exact ⟨_, rfl⟩
end Go.Proofs.YtaogoabnidbbpaaDoor.PText
