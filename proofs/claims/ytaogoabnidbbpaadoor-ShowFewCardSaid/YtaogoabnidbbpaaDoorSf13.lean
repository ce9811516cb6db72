/- Texts of this work merged into one file, what the law does not need left out: TextReader; TextMethods; TextSlim; TextReads; TextLexes; TextRuns. Conditions stand in each law. -/
import Derived.Below
import Derived.Deep.Draws
import Derived.Deep.AppendLies
import Derived.Maps.AppendAt
import Derived.OwnWalk
import Derived.Laws.BytesArg
import Derived.Laws.MakeOwn
import Derived.Laws.OwnMore
import Derived.Deep.OwnRows
import Derived.Tactics
import Derived.Lib.ConvBytes
import Derived.Laws.Slices
import Derived.WalkKit
import Derived.KernelRfl
import Derived.RowKit3
import Derived.Deep.LoopGhost
import Derived.Deep.QuietTactic
import Derived.BigQuiet
import Derived.WideLaws
import Derived.Deep.DeepCutAuto
import Derived.Deep.CutBlock
import Derived.Deep.RegionHeld3
import Derived.Laws.Rows
import Derived.Lib.AppendStr
import Derived.ArgAppend
import Derived.Laws.IdiomCopy
import Derived.RowKit
import Derived.OrdersHeld
import Derived.Laws.BitsLemmas
import Derived.Laws.StructEq
import Derived.Test.YtaogoabnidbbpaaDoorProg
import Derived.Shelf.Strings.Builder1
import Derived.Shelf.Strings.BuilderF
import Derived.Shelf.Strings.BuilderK
import Derived.Shelf.Strings.Fields
import Derived.Lib.SmallJoins
import Derived.BigCall
import Derived.WalkMore
import Derived.Lib.OthersKept
import Derived.Lib.FrozenHead
import Derived.WalkSmall
import Derived.Test.YtaogoabnidbbpaaDoorSf1
import Derived.Test.YtaogoabnidbbpaaDoorSf2
import Derived.Test.YtaogoabnidbbpaaDoorSf3
import Derived.Test.YtaogoabnidbbpaaDoorSf4
import Derived.Test.YtaogoabnidbbpaaDoorSf5
import Derived.Test.YtaogoabnidbbpaaDoorSf6
import Derived.Test.YtaogoabnidbbpaaDoorSf7
import Derived.Test.YtaogoabnidbbpaaDoorSf8
import Derived.Test.YtaogoabnidbbpaaDoorSf9
import Derived.Test.YtaogoabnidbbpaaDoorSf10
import Derived.Test.YtaogoabnidbbpaaDoorSf11
import Derived.Test.YtaogoabnidbbpaaDoorSf12
/-! TextReader -/
namespace Go.Proofs.YtaogoabnidbbpaaDoor.PText
open Go.RowKit Go.Proofs.YtaogoabnidbbpaaDoorW.PrintWords Go.Proofs.YtaogoabnidbbpaaDoorW.PrintLast Go.Proofs.YtaogoabnidbbpaaDoorW.PrintMore Go.Proofs.YtaogoabnidbbpaaDoorW.Aid
set_option linter.unusedVariables false
/-- The reader in block g of world W: names and words lie in w0, below what was new since. -/
def RdAt (w0 : World) (g : Nat) (nm : Option Addr) (nn cn : Nat) (last : Int) (W : World) (r : Rd) : Prop :=
  ∃ A c vo, W.heap[g]? = some (.cells #[.slice nm nn cn, .slice A r.ws.length c, .int .i64 last, vo] 98 (0, 0)) ∧ w0.heap.size ≤ g ∧ Kd.C k31 w0 A r.ws.length r.ws ∧ r.ws.length ≤ c ∧ Kd.R k55 55 W w0.heap.size (fun k => k ≠ g) vo r.out ∧ Below w0.heap.size w0 W
theorem next_nil {r : Rd} (h : r.ws = []) : r.next = [] := by unfold Rd.next; rw [h]
theorem next_rd {r : Rd} (h : r.ws ≠ []) : bytesB r.next = (rd_T31 r.ws 0).f1 := by
  unfold Rd.next rd_T31
  cases hw : r.ws with
  | nil => exact absurd hw h
  | cons w t => rfl
set_option maxHeartbeats 4000000 in
set_option maxRecDepth 100000 in
theorem next_calls (w0 : World) (g : Nat) (nm : Option Addr) (nn cn : Nat) (last : Int) (r : Rd) (W : World) (h : RdAt w0 g nm nn cn last W r) :
    Calls Tryd.prog 110 #[.pointer (some ⟨g, 0, none⟩)] W fun e w' => e = .returned (.string (bytesB r.next)) ∧ Drawn0 W w' := by
  obtain ⟨A, c, vo, hb, hg, hC, hc, hR, hB⟩ := h
  have HR := Aside0.mk hR
  have HC := Aside0.mk hC
  have HB := Aside0.mk hB
  have d1 : W.cell? ⟨g, 1, none⟩ = some (.slice A r.ws.length c) := (blk_cell hb 1).trans rfl
  clear hR hC hB hb hg hc
  by_cases h0 : r.ws = []
  · have hn := Aside0.mk (next_nil h0)
    have hz : Aside0 (r.ws.length = 0) := ⟨by rw [h0]; rfl⟩
    rw [hz.out] at d1
    clear h0
    go_enter Tryd.func110, Tryd.ntmps110
    go_wp2
    go_ret
    exact ⟨by rw [hn.out]; rfl, ⟨0, rfl⟩⟩
  · have hn := Aside0.mk (next_rd h0)
    have hpos : 0 < r.ws.length := List.length_pos_iff.2 h0
    have c1 : ((r.ws.length : Int) == 0) = false := beq_eq_false_iff_ne.2 (by omega)
    have c2 := eq_true (show (0 : Int) < (r.ws.length : Int) by omega)
    obtain ⟨ad, ead, hx0, hx1, hx2⟩ := at_T31 HC.out 0 (by omega) (by omega)
    cases ead
    have y1 : W.cell? ⟨ad.block, ad.off + 1, none⟩ = some (.string (rd_T31 r.ws 0).f1) := (HB.out.cell (World.block_lt_of_cell? w0 _ hx1)).trans hx1
    clear hx0 hx1 hx2 h0
    go_enter Tryd.func110, Tryd.ntmps110
    go_wp2
    go_ret
    exact ⟨by rw [hn.out]; rfl, ⟨0, rfl⟩⟩
theorem RdAt.drewN {w0 : World} {g : Nat} {nm : Option Addr} {nn cn : Nat} {last : Int} {r : Rd} {W : World} (h : RdAt w0 g nm nn cn last W r) (m : Nat) : RdAt w0 g nm nn cn last (W.drewN m) r := by
  obtain ⟨A, c, vo, hb, hg, hC, hc, hR, hB⟩ := h
  exact ⟨A, c, vo, hb, hg, hC, hc, Kd.R_drewN hR _, pw_below_drewN hB _⟩
/-- The words behind the first, stored. -/
theorem RdAt.pop_set {w0 : World} {g : Nat} {nm : Option Addr} {nn cn : Nat} {last : Int} {r : Rd} {W : World} {A : Option Addr} {c : Nat} {vo : Value} (hb : W.heap[g]? = some (.cells #[.slice nm nn cn, .slice A r.ws.length c, .int .i64 last, vo] 98 (0, 0)))
    (hg : w0.heap.size ≤ g) (hC : Kd.C k31 w0 A r.ws.length r.ws) (hc : r.ws.length ≤ c) (hR : Kd.R k55 55 W w0.heap.size (fun k => k ≠ g) vo r.out) (hB : Below w0.heap.size w0 W) (hpos : 1 ≤ r.ws.length) :
    RdAt w0 g nm nn cn last (W.setCell ⟨g, 1, none⟩ (.slice (if c = 1 then A else A.map (·.add 3)) (r.ws.length - 1) (c - 1))) r.pop := by
  have hd := Kd.C_drop (m := 1) (c := c) hC hpos hc
  have hl : r.pop.ws.length = r.ws.length - 1 := by show (r.ws.drop 1).length = _; rw [List.length_drop]
  refine ⟨_, c - 1, vo, ?_, hg, hd, by rw [hl]; omega, ?_, below_set hB hg⟩
  · rw [hl]
    exact blk_put hb 1 _ rfl
  · exact Kd.R_mono (Kd.R_far hR (fun _ hk => hk) _) (fun _ hk => hk)
set_option maxHeartbeats 4000000 in
set_option maxRecDepth 100000 in
theorem take_calls (w0 : World) (g : Nat) (nm : Option Addr) (nn cn : Nat) (last : Int) (r : Rd) (s : Bs) (hs : s ≠ []) (W : World) (h : RdAt w0 g nm nn cn last W r) :
    Calls Tryd.prog 98 #[.pointer (some ⟨g, 0, none⟩), .string (bytesB s)] W fun e w' => e = .returned (.bool (decide (r.next = s))) ∧ RdAt w0 g nm nn cn last w' (if r.next = s then r.pop else r) := by
  have HI := Aside0.mk h
  by_cases hns : r.next = s
  · rw [if_pos hns, decide_eq_true hns]
    have e1 : ((bytesB r.next).toList == (bytesB s).toList) = true := by rw [bytes_eq, bytes_eq, beq_iff_eq]; exact hns
    have e2 : ((bytesB r.next).toList != (bytesB s).toList) = false := by rw [bytes_eq, bytes_eq, bne_eq_false_iff_eq]; exact hns
    have hne : r.ws ≠ [] := by intro e; rw [next_nil e] at hns; exact hs hns.symm
    have hpos : 1 ≤ r.ws.length := List.length_pos_iff.2 hne
    clear hns h hne
    obtain ⟨A, c, vo, hb, hg, hC, hc, hR, hB⟩ := HI.out
    have d1 : W.cell? ⟨g, 1, none⟩ = some (.slice A r.ws.length c) := (blk_cell hb 1).trans rfl
    have f1 := blk_frozen hb 1
    have HP := Aside0.mk (fun nd => RdAt.pop_set (W := W.drewN nd) hb hg hC hc (Kd.R_drewN hR _) (pw_below_drewN hB _) hpos)
    have g1 := eq_true (show (1 : Int) ≤ (r.ws.length : Int) by omega)
    have g2 := eq_true (show (r.ws.length : Int) ≤ (c : Int) by omega)
    have g3 := eq_true (show 1 ≤ r.ws.length by omega)
    have g4 := eq_true (show r.ws.length ≤ c by omega)
    clear hb hg hC hR hB
    by_cases hc1 : c = 1
    · subst hc1
      have hl1 : Aside0 (r.ws.length - 1 = 0) := ⟨by omega⟩
      clear hc
      go_enter Tryd.func98, Tryd.ntmps98
      go_wp2_with (go_at_call 110; refine (next_calls w0 g nm nn cn last r _ HI.out).mono ?_; rintro e w' ⟨rfl, ⟨nd, rfl⟩⟩)
      go_ret
      have hp := HP.out nd
      first | rw [if_pos rfl] at hp | rw [if_pos trivial] at hp
      rw [hl1.out] at hp
      exact ⟨rfl, hp⟩
    · clear hc
      go_enter Tryd.func98, Tryd.ntmps98
      go_wp2_with (go_at_call 110; refine (next_calls w0 g nm nn cn last r _ HI.out).mono ?_; rintro e w' ⟨rfl, ⟨nd, rfl⟩⟩)
      go_ret
      have hp := HP.out nd
      rw [if_neg hc1] at hp
      exact ⟨rfl, hp⟩
  · rw [if_neg hns, decide_eq_false hns]
    have e1 : ((bytesB r.next).toList == (bytesB s).toList) = false := by rw [bytes_eq, bytes_eq, beq_eq_false_iff_ne]; exact hns
    have e2 : ((bytesB r.next).toList != (bytesB s).toList) = true := by rw [bytes_eq, bytes_eq, bne_iff_ne]; exact hns
    clear hns h
    go_enter Tryd.func98, Tryd.ntmps98
    go_wp2_with (go_at_call 110; refine (next_calls w0 g nm nn cn last r _ HI.out).mono ?_; rintro e w' ⟨rfl, ⟨nd, rfl⟩⟩)
    go_ret
    exact ⟨rfl, RdAt.drewN HI.out nd⟩
set_option maxHeartbeats 4000000 in
set_option maxRecDepth 100000 in
theorem put_calls (w0 : World) (g : Nat) (nm : Option Addr) (nn cn : Nat) (last : Int) (r : Rd) (op : Int) (hlen : r.out.length ≤ 1099511627776) (W : World) (h : RdAt w0 g nm nn cn last W r) :
    Calls Tryd.prog 99 #[.pointer (some ⟨g, 0, none⟩), .int .u8 op] W fun e w' => e = .returned (.tuple #[]) ∧ RdAt w0 g nm nn cn last w' (r.put op) := by
  obtain ⟨A, c, vo, hb, hg, hC, hc, hR, hB⟩ := h
  have HG := Aside0.mk hg
  have HC := Aside0.mk hC
  have Hc := Aside0.mk hc
  have HR := Aside0.mk hR
  have HB := Aside0.mk hB
  have HBK := Aside0.mk hb
  have HL := Aside0.mk hlen
  have hglt := Aside0.mk (blk_lt hb)
  have hvo : Aside0 (some g ≠ vo.ownBlock) := ⟨fun e => hR.1 g e.symm rfl⟩
  have d3 : W.cell? ⟨g, 3, none⟩ = some vo := (blk_cell hb 3).trans rfl
  have f3 := blk_frozen hb 3
  obtain ⟨Ao, co, eo⟩ := Kd.R_slice hR
  subst eo
  clear hg hC hc hR hB hb hlen
  go_enter Tryd.func99, Tryd.ntmps99
  go_wp2_with ((with_reducible refine gate_builtin (b := .append) (xs := #[.tmp 8, .tmp 11]) rfl ?_); at_builtin; refine Kd.R_append k55 (w0 := w0) w0.heap.size rfl (.tmp 8) (.tmp 11) 46 55 (.agg #[(.int .u8 0), (.int .u8 0)]) 2 rfl Tryd.underlying46 info55 rfl (by decide) (by omega) (.slice Ao r.out.length co) r.out (⟨op, 0⟩ : Tk) [.int .u8 op, .int .u8 0] (fun k => k ≠ g) (fun _ => False) rfl rfl ?aP (fun _ hk => hk.elim) ?aF ?aO ?aB ?aS ?aL ?_; (case aP => exact k55_mkM _ _ _ (⟨op, 0⟩ : Tk)); (case aB => exact HB.out); (case aF => exact (fun k hk e => absurd hglt.out (by rw [← e]; exact Nat.not_lt.2 hk))); (case aO => exact HR.out); (case aS => exact HB.out.size); (case aL => have := HL.out; omega); intro v1 w1 ho hb hg hat; obtain ⟨A2, c2, e2⟩ := Kd.R_slice ho; subst e2; have HO := Aside0.mk ho; have HB2 := Aside0.mk hb; have HBK2 := Aside0.mk (blk_grown HBK.out hg hvo.out); have f4 := blk_frozen HBK2.out 3; have d4 : w1.cell? ⟨g, 3, none⟩ = some (.slice Ao r.out.length co) := (blk_cell HBK2.out 3).trans rfl; clear ho hb hg hat HB HR)
  go_end0
  have hl : (r.out ++ [(⟨op, 0⟩ : Tk)]).length = r.out.length + 1 := by rw [List.length_append]; rfl
  have h2 := HO.out
  rw [hl] at h2
  have h3 := Kd.R_far (p := ⟨g, 3, none⟩) h2 (fun _ hk => hk) (.slice A2 (r.out.length + 1) c2)
  exact ⟨rfl, A, c, .slice A2 (r.out.length + 1) c2, blk_put HBK2.out 3 _ rfl, HG.out, HC.out, Hc.out, h3, below_set HB2.out HG.out⟩
/-- What the reader throws. -/
def thrown (e at_ : Int) : Ending := .panicked [{ v := .iface 95 (.agg #[.int .i64 e, .int .i64 at_]), recovered := false }]
theorem place_nil {r : Rd} (last : Int) (h : r.ws = []) : r.place last = last := by unfold Rd.place; rw [h]
theorem place_rd {r : Rd} (last : Int) (h : r.ws ≠ []) : r.place last = (rd_T31 r.ws 0).f2 := by
  unfold Rd.place rd_T31
  cases hw : r.ws with
  | nil => exact absurd hw h
  | cons w t => rfl
set_option maxHeartbeats 4000000 in
set_option maxRecDepth 100000 in
theorem fail_calls (w0 : World) (g : Nat) (nm : Option Addr) (nn cn : Nat) (last : Int) (r : Rd) (er : Int) (W : World) (h : RdAt w0 g nm nn cn last W r) :
    Calls Tryd.prog 69 #[.pointer (some ⟨g, 0, none⟩), .int .i64 er] W fun e w' => e = thrown er (r.place last) ∧ Below w0.heap.size w0 w' := by
  obtain ⟨A, c, vo, hb, hg, hC, hc, hR, hB⟩ := h
  have HC := Aside0.mk hC
  have HB := Aside0.mk hB
  have d1 : W.cell? ⟨g, 1, none⟩ = some (.slice A r.ws.length c) := (blk_cell hb 1).trans rfl
  have d2 : W.cell? ⟨g, 2, none⟩ = some (.int .i64 last) := (blk_cell hb 2).trans rfl
  clear hR hC hB hb hg hc
  by_cases h0 : r.ws = []
  · have hn := Aside0.mk (place_nil last h0)
    have hz : Aside0 (r.ws.length = 0) := ⟨by rw [h0]; rfl⟩
    rw [hz.out] at d1
    clear h0
    rw [hn.out]
    go_enter Tryd.func69, Tryd.ntmps69
    go_wp2
    exact ⟨rfl, rfl, HB.out⟩
  · have hn := Aside0.mk (place_rd last h0)
    have hpos : 0 < r.ws.length := List.length_pos_iff.2 h0
    have c1 : decide ((0 : Int) < (r.ws.length : Int)) = true := decide_eq_true (by omega)
    have c2 := eq_true (show (0 : Int) < (r.ws.length : Int) by omega)
    obtain ⟨ad, ead, hx0, hx1, hx2⟩ := at_T31 HC.out 0 (by omega) (by omega)
    cases ead
    have y2 : W.cell? ⟨ad.block, ad.off + 2, none⟩ = some (.int .i64 (rd_T31 r.ws 0).f2) := (HB.out.cell (World.block_lt_of_cell? w0 _ hx2)).trans hx2
    clear hx0 hx1 hx2 h0
    rw [hn.out]
    go_enter Tryd.func69, Tryd.ntmps69
    go_wp2
    exact ⟨rfl, rfl, HB.out⟩
/-- How a method's end is told of the memory: it goes on with the reader's block, or it throws. -/
def Told (w0 : World) (g : Nat) (nm : Option Addr) (nn cn : Nat) (last : Int) : End → Ending → World → Prop
  | .go r, e, w' => e = .returned (.tuple #[]) ∧ RdAt w0 g nm nn cn last w' r
  | .stop er a, e, w' => e = thrown er a ∧ Below w0.heap.size w0 w'
def wantE (last : Int) (s : Bs) (r : Rd) : End := if r.next = s then .go r.pop else r.fail last 150
set_option maxHeartbeats 4000000 in
set_option maxRecDepth 100000 in
theorem want_calls (w0 : World) (g : Nat) (nm : Option Addr) (nn cn : Nat) (last : Int) (r : Rd) (s : Bs) (hs : s ≠ []) (W : World) (h : RdAt w0 g nm nn cn last W r) :
    Calls Tryd.prog 118 #[.pointer (some ⟨g, 0, none⟩), .string (bytesB s)] W (Told w0 g nm nn cn last (wantE last s r)) := by
  have HI := Aside0.mk h
  have HT := take_calls w0 g nm nn cn last r s hs W h
  clear h
  by_cases hns : r.next = s
  · unfold wantE
    rw [if_pos hns] at HT ⊢
    rw [decide_eq_true hns] at HT
    have HTA := Aside0.mk HT
    clear HT hns
    go_enter Tryd.func118, Tryd.ntmps118
    go_wp2_with (go_at_call 98; refine HTA.out.mono ?_; rintro e w' ⟨rfl, hI2⟩)
    go_end0
    exact ⟨rfl, hI2⟩
  · unfold wantE
    rw [if_neg hns] at HT ⊢
    rw [decide_eq_false hns] at HT
    have HTA := Aside0.mk HT
    clear HT hns
    go_enter Tryd.func118, Tryd.ntmps118
    go_wp2_with (first | (go_at_call 98; refine HTA.out.mono ?_; rintro e w' ⟨rfl, hI2⟩; have HI2 := Aside0.mk hI2; clear hI2) | (go_at_call 69; refine (fail_calls w0 g nm nn cn last r 150 _ HI2.out).mono ?_; rintro e w' ⟨rfl, hb⟩; unfold thrown))
    exact ⟨rfl, rfl, hb⟩
end Go.Proofs.YtaogoabnidbbpaaDoor.PText
/-! TextMethods -/
namespace Go.Proofs.YtaogoabnidbbpaaDoor.PText
open Go.RowKit Go.Proofs.YtaogoabnidbbpaaDoorW.PrintWords Go.Proofs.YtaogoabnidbbpaaDoorW.PrintLast Go.Proofs.YtaogoabnidbbpaaDoorW.PrintMore Go.Proofs.YtaogoabnidbbpaaDoorW.Aid
set_option linter.unusedVariables false
def Rd.size (r : Rd) : Nat := r.out.length + r.ws.length
theorem pop_size (r : Rd) : r.pop.size ≤ r.size := by
  unfold Rd.size Rd.pop
  show r.out.length + (r.ws.drop 1).length ≤ _
  rw [List.length_drop]
  omega
theorem next_ws {r : Rd} {s : Bs} (hs : s ≠ []) (h : r.next = s) : 1 ≤ r.ws.length := by
  rcases Nat.eq_zero_or_pos r.ws.length with h0 | h0
  · have := next_nil (List.length_eq_zero_iff.1 h0)
    rw [this] at h
    exact absurd h.symm hs
  · exact h0
/-- Which function a method is; the loops inside are none. -/
def fnOf : Nt → Nat
  | .iff => 68 | .imp => 86 | .or => 101 | .and => 112
  | .til => 120 | .unary => 119 | .atom => 125 | .plus => 67
  | .seq => 85 | .star => 100 | .bare => 111
  | _ => 0
/-- What one method does, and does not grow. -/
def Does (names : List ByteArray) (w0 : World) (g : Nat) (nm : Option Addr) (nn cn : Nat) (last : Int) (n : Nat) (nt : Nt) : Prop :=
  ∀ (r : Rd) (e : End), run names last n nt r = some e → r.size ≤ 1099511627775 → ∀ W, RdAt w0 g nm nn cn last W r → Calls Tryd.prog (fnOf nt) #[.pointer (some ⟨g, 0, none⟩)] W (Told w0 g nm nn cn last e)
/-- A method never makes what is left and out together longer. -/
def Slim (names : List ByteArray) (last : Int) (n : Nat) (nt : Nt) : Prop := ∀ (r r' : Rd), run names last n nt r = some (.go r') → r'.size ≤ r.size
set_option maxHeartbeats 4000000 in
set_option maxRecDepth 100000 in
theorem imp_does (names : List ByteArray) (w0 : World) (g : Nat) (nm : Option Addr) (nn cn : Nat) (last : Int) (n : Nat) (sOr : Slim names last n .or) (sImp : Slim names last n .imp)
    (dOr : Does names w0 g nm nn cn last n .or) (dImp : Does names w0 g nm nn cn last n .imp) : Does names w0 g nm nn cn last (n + 1) .imp := by
  intro r e hrun hsz W hI
  rw [run] at hrun
  have HI := Aside0.mk hI
  clear hI
  cases h1 : run names last n .or r with
  | none => rw [h1] at hrun; cases hrun
  | some e1 =>
    rw [h1] at hrun
    have D1 := Aside0.mk (dOr r e1 h1 hsz)
    cases e1 with
    | stop er a =>
      obtain rfl : e = .stop er a := by cases hrun; rfl
      clear hrun h1
      show Calls Tryd.prog 86 _ W _
      go_enter Tryd.func86, Tryd.ntmps86
      go_wp2_with (go_at_call 101; refine (D1.out W HI.out).mono ?_; rintro e w' ⟨rfl, hb⟩; unfold thrown)
      exact ⟨rfl, rfl, hb⟩
    | go r1 =>
      have hr1 := sOr r r1 h1
      clear h1
      have hrun2 : (if r1.next = [45, 62] then thenDo (run names last n .imp r1.pop) (fun r => some (.go (r.put 13))) else some (.go r1)) = some e := hrun
      clear hrun
      by_cases hn : r1.next = [45, 62]
      · rw [if_pos hn] at hrun2
        have hws := next_ws (by decide) hn
        have hps := pop_size r1
        cases h2 : run names last n .imp r1.pop with
        | none => rw [h2] at hrun2; cases hrun2
        | some e2 =>
          rw [h2] at hrun2
          have D2 := Aside0.mk (dImp r1.pop e2 h2 (by omega))
          have HT := Aside0.mk (fun W h => take_calls w0 g nm nn cn last r1 [45, 62] (by decide) W h)
          have HN := Aside0.mk hn
          rw [if_pos hn, decide_eq_true hn] at HT
          clear hn
          cases e2 with
          | stop er a =>
            obtain rfl : e = .stop er a := by cases hrun2; rfl
            clear hrun2 h2
            show Calls Tryd.prog 86 _ W _
            go_enter Tryd.func86, Tryd.ntmps86
            go_wp2_with (first | (go_at_call 101; refine (D1.out W HI.out).mono ?_; rintro e w' ⟨rfl, hI2⟩; have HI2 := Aside0.mk hI2; clear hI2) | (go_at_call 98; refine (HT.out _ HI2.out).mono ?_; rintro e w' ⟨rfl, hI3⟩; have HI3 := Aside0.mk hI3; clear hI3) | (go_at_call 86; refine (D2.out _ HI3.out).mono ?_; rintro e w' ⟨rfl, hb⟩; unfold thrown))
            exact ⟨rfl, rfl, hb⟩
          | go r2 =>
            obtain rfl : e = .go (r2.put 13) := by cases hrun2; rfl
            have hr2 := sImp r1.pop r2 h2
            have hlo : r2.out.length ≤ 1099511627776 := by unfold Rd.size at *; omega
            have HP := Aside0.mk (fun W h => put_calls w0 g nm nn cn last r2 13 hlo W h)
            clear hrun2 h2 hr2 hlo
            show Calls Tryd.prog 86 _ W _
            go_enter Tryd.func86, Tryd.ntmps86
            go_wp2_with (first | (go_at_call 101; refine (D1.out W HI.out).mono ?_; rintro e w' ⟨rfl, hI2⟩; have HI2 := Aside0.mk hI2; clear hI2) | (go_at_call 98; refine (HT.out _ HI2.out).mono ?_; rintro e w' ⟨rfl, hI3⟩; have HI3 := Aside0.mk hI3; clear hI3) | (go_at_call 86; refine (D2.out _ HI3.out).mono ?_; rintro e w' ⟨rfl, hI4⟩; have HI4 := Aside0.mk hI4; clear hI4) | (go_at_call 99; refine (HP.out _ HI4.out).mono ?_; rintro e w' ⟨rfl, hI5⟩))
            go_end0
            exact ⟨rfl, hI5⟩
      · rw [if_neg hn] at hrun2
        obtain rfl : e = .go r1 := by cases hrun2; rfl
        have HT := Aside0.mk (fun W h => take_calls w0 g nm nn cn last r1 [45, 62] (by decide) W h)
        rw [if_neg hn, decide_eq_false hn] at HT
        clear hrun2 hn
        show Calls Tryd.prog 86 _ W _
        go_enter Tryd.func86, Tryd.ntmps86
        go_wp2_with (first | (go_at_call 101; refine (D1.out W HI.out).mono ?_; rintro e w' ⟨rfl, hI2⟩; have HI2 := Aside0.mk hI2; clear hI2) | (go_at_call 98; refine (HT.out _ HI2.out).mono ?_; rintro e w' ⟨rfl, hI3⟩))
        go_end0
        exact ⟨rfl, hI3⟩
end Go.Proofs.YtaogoabnidbbpaaDoor.PText
/-! TextSlim -/
namespace Go.Proofs.YtaogoabnidbbpaaDoor.PText
open Go.RowKit Go.Proofs.YtaogoabnidbbpaaDoorW.PrintWords Go.Proofs.YtaogoabnidbbpaaDoorW.PrintLast Go.Proofs.YtaogoabnidbbpaaDoorW.PrintMore
set_option linter.unusedVariables false
theorem then_go {x : Option End} {f : Rd → Option End} {r' : Rd} (h : thenDo x f = some (.go r')) : ∃ r1, x = some (.go r1) ∧ f r1 = some (.go r') := by
  cases x with
  | none => cases h
  | some e => cases e with
    | stop a b => cases h
    | go r1 => exact ⟨r1, rfl, h⟩
theorem pop_one {r : Rd} (h : 1 ≤ r.ws.length) : r.pop.size + 1 = r.size := by
  unfold Rd.size Rd.pop
  show r.out.length + (r.ws.drop 1).length + 1 = _
  rw [List.length_drop]; omega
theorem put_one (r : Rd) (op : Int) : (r.put op).size = r.size + 1 := by
  unfold Rd.size Rd.put
  show (r.out ++ [_]).length + r.ws.length = _
  rw [List.length_append, List.length_cons, List.length_nil]; omega
theorem put_ws (r : Rd) (op : Int) : (r.put op).ws = r.ws := rfl
theorem want_go {r r' : Rd} {last : Int} {s : Bs} {f : Rd → Option End} (hs : s ≠ []) (h : r.want last s f = some (.go r')) : 1 ≤ r.ws.length ∧ f r.pop = some (.go r') := by
  unfold Rd.want at h
  split at h
  · rename_i hn; exact ⟨next_ws hs hn, h⟩
  · cases h
theorem name_go {r r' : Rd} {names : List ByteArray} {last : Int} (h : r.name names last = some (.go r')) : r'.size = r.size := by
  unfold Rd.name at h
  cases hw : r.ws with
  | nil => rw [hw] at h; cases h
  | cons w t =>
    rw [hw] at h
    simp only at h
    split at h
    · cases h
    · split at h
      · cases h
      · have h2 := Option.some.inj h
        injection h2 with h2
        subst h2
        unfold Rd.size Rd.pop
        show (r.out ++ [_]).length + (List.drop 1 (w :: t)).length = r.out.length + r.ws.length
        rw [hw, List.length_append, List.length_drop]
        simp
        omega
theorem run_slim (names : List ByteArray) (last : Int) (n : Nat) : ∀ nt, Slim names last n nt := by
  induction n with
  | zero => intro nt r r' h; rw [run] at h; cases h
  | succ n ih =>
    have go1 : ∀ {r r' : Rd}, (some (End.go r) : Option End) = some (.go r') → r' = r := by intro r r' h; injection h with h; injection h with h; exact h.symm
    have two : ∀ (a b : Nt) (r r' : Rd), thenDo (run names last n a r) (run names last n b) = some (.go r') → r'.size ≤ r.size := by
      intro a b r r' h
      obtain ⟨r1, h1, h2⟩ := then_go h
      exact Nat.le_trans (ih b r1 r' h2) (ih a r r1 h1)
    have more : ∀ (s : Bs) (a b : Nt) (op : Int) (r r' : Rd), s ≠ [] → (if r.next = s then thenDo (run names last n a r.pop) (fun r => run names last n b (r.put op)) else some (.go r)) = some (.go r') → r'.size ≤ r.size := by
      intro s a b op r r' hs h
      split at h
      · rename_i hn
        obtain ⟨r1, h1, h2⟩ := then_go h
        have h3 := ih a r.pop r1 h1
        have h4 := ih b _ r' h2
        rw [put_one] at h4
        have h5 := pop_one (next_ws hs hn)
        omega
      · rw [go1 h]; exact Nat.le_refl _
    have un : ∀ (s : Bs) (a : Nt) (op : Int) (r r' : Rd), s ≠ [] → r.next = s → thenDo (run names last n a r.pop) (fun r => some (.go (r.put op))) = some (.go r') → r'.size ≤ r.size := by
      intro s a op r r' hs hn h
      obtain ⟨r1, h1, h2⟩ := then_go h
      have h3 := ih a r.pop r1 h1
      rw [go1 h2, put_one]
      have h5 := pop_one (next_ws hs hn)
      omega
    have modal : ∀ (s s2 : Bs) (op : Int) (r r' : Rd), s ≠ [] → s2 ≠ [] → r.next = s → thenDo (run names last n .plus r.pop) (fun r => r.want last s2 (fun r => thenDo (run names last n .unary r) (fun r => some (.go (r.put op))))) = some (.go r') → r'.size ≤ r.size := by
      intro s s2 op r r' hs hs2 hn h
      obtain ⟨r1, h1, h2⟩ := then_go h
      have h3 := ih .plus r.pop r1 h1
      obtain ⟨h4, h6⟩ := want_go hs2 h2
      obtain ⟨r2, h7, h8⟩ := then_go h6
      have h9 := ih .unary r1.pop r2 h7
      rw [go1 h8, put_one]
      have h5 := pop_one (next_ws hs hn)
      have h10 := pop_one h4
      omega
    have paren : ∀ (s s2 : Bs) (a : Nt) (f : Rd → Rd) (r r' : Rd), s ≠ [] → s2 ≠ [] → (∀ q, (f q).size ≤ q.size + 1) → r.next = s → thenDo (run names last n a r.pop) (fun r => r.want last s2 (fun r => some (.go (f r)))) = some (.go r') → r'.size ≤ r.size := by
      intro s s2 a f r r' hs hs2 hf hn h
      obtain ⟨r1, h1, h2⟩ := then_go h
      have h3 := ih a r.pop r1 h1
      obtain ⟨h4, h6⟩ := want_go hs2 h2
      rw [go1 h6]
      have h5 := pop_one (next_ws hs hn)
      have h10 := pop_one h4
      have h11 := hf r1.pop
      omega
    have word : ∀ (s : Bs) (op : Int) (r r' : Rd), s ≠ [] → r.next = s → (some (End.go (r.put op).pop) : Option End) = some (.go r') → r'.size ≤ r.size := by
      intro s op r r' hs hn h
      rw [go1 h]
      have h5 := pop_one (r := r.put op) (by rw [put_ws]; exact next_ws hs hn)
      rw [put_one] at h5
      omega
    intro nt r r' h
    cases nt with
    | iff => rw [run] at h; exact two _ _ r r' h
    | or => rw [run] at h; exact two _ _ r r' h
    | and => rw [run] at h; exact two _ _ r r' h
    | plus => rw [run] at h; exact two _ _ r r' h
    | seq => rw [run] at h; exact two _ _ r r' h
    | star => rw [run] at h; exact two _ _ r r' h
    | moreIff => rw [run] at h; exact more _ _ _ _ r r' (by decide) h
    | moreOr => rw [run] at h; exact more _ _ _ _ r r' (by decide) h
    | moreAnd => rw [run] at h; exact more _ _ _ _ r r' (by decide) h
    | morePlus => rw [run] at h; exact more _ _ _ _ r r' (by decide) h
    | moreSeq => rw [run] at h; exact more _ _ _ _ r r' (by decide) h
    | stars =>
      rw [run] at h
      split at h
      · rename_i hn
        have h1 := ih .stars _ r' h
        rw [put_one] at h1
        have h5 := pop_one (next_ws (by decide) hn)
        omega
      · rw [go1 h]; exact Nat.le_refl _
    | imp =>
      rw [run] at h
      obtain ⟨r1, h1, h2⟩ := then_go h
      have h3 := ih .or r r1 h1
      split at h2
      · rename_i hn
        have := un _ .imp 13 r1 r' (by decide) hn h2
        omega
      · rw [go1 h2]; exact h3
    | til =>
      rw [run] at h
      obtain ⟨r1, h1, h2⟩ := then_go h
      have h3 := ih .unary r r1 h1
      split at h2
      · rename_i hn
        have := un _ .til 15 r1 r' (by decide) hn h2
        omega
      · split at h2
        · rename_i hn
          have := un _ .til 16 r1 r' (by decide) hn h2
          omega
        · rw [go1 h2]; exact h3
    | unary =>
      rw [run] at h
      split at h
      · rename_i hn; exact un _ .unary _ r r' (by decide) hn h
      split at h
      · rename_i hn; exact un _ .unary _ r r' (by decide) hn h
      split at h
      · rename_i hn; exact un _ .unary _ r r' (by decide) hn h
      split at h
      · rename_i hn; exact un _ .unary _ r r' (by decide) hn h
      split at h
      · rename_i hn; exact un _ .unary _ r r' (by decide) hn h
      split at h
      · rename_i hn; exact modal _ _ _ r r' (by decide) (by decide) hn h
      split at h
      · rename_i hn; exact modal _ _ _ r r' (by decide) (by decide) hn h
      · exact ih .atom r r' h
    | atom =>
      rw [run] at h
      split at h
      · rename_i hn; exact word _ _ r r' (by decide) hn h
      split at h
      · rename_i hn; exact word _ _ r r' (by decide) hn h
      split at h
      · rename_i hn; exact word _ _ r r' (by decide) hn h
      split at h
      · rename_i hn; exact paren _ _ .iff (fun q => q) r r' (by decide) (by decide) (fun q => Nat.le_succ _) hn h
      · exact Nat.le_of_eq (name_go h)
    | bare =>
      rw [run] at h
      split at h
      · rename_i hn; exact paren _ _ .iff (fun q => q.put 19) r r' (by decide) (by decide) (fun q => Nat.le_of_eq (put_one q 19)) hn h
      split at h
      · rename_i hn; exact un _ .unary _ r r' (by decide) hn h
      split at h
      · rename_i hn; exact paren _ _ .plus (fun q => q) r r' (by decide) (by decide) (fun q => Nat.le_succ _) hn h
      · cases h
end Go.Proofs.YtaogoabnidbbpaaDoor.PText
/-! TextReads -/
namespace Go.Proofs.YtaogoabnidbbpaaDoor.PText
open Go.RowKit Go.Proofs.YtaogoabnidbbpaaDoorW.PrintWords Go.Proofs.YtaogoabnidbbpaaDoorW.PrintLast Go.Proofs.YtaogoabnidbbpaaDoorW.PrintMore
set_option linter.unusedVariables false
/-- A word without its place. -/
abbrev Sy := Int × Bs
def sy (w : Wd) : Sy := (w.f0, w.f1.data.toList)
def nextS : List Sy → Bs
  | [] => []
  | w :: _ => w.2
def lefty : Nt → Option (Nt × Nt)
  | .iff => some (.imp, .moreIff)
  | .or => some (.and, .moreOr)
  | .and => some (.til, .moreAnd)
  | .plus => some (.seq, .morePlus)
  | .seq => some (.star, .moreSeq)
  | .star => some (.bare, .stars)
  | _ => none
def morely : Nt → Option (Bs × Int × Nt)
  | .moreIff => some ([60, 45, 62], 14, .imp)
  | .moreOr => some ([124], 12, .and)
  | .moreAnd => some ([38], 11, .til)
  | .morePlus => some ([43], 21, .seq)
  | .moreSeq => some ([59], 22, .star)
  | _ => none
def pres : List (Bs × Int) := [([33], 6), ([88], 7), ([78], 8), ([70], 9), ([71], 10)]
def modals : List (Bs × Bs × Int) := [([60], [62], 17), ([91], [93], 18)]
def words0 : List (Bs × Int) := [([116, 114, 117, 101], 0), ([102, 97, 108, 115, 101], 1), ([108, 97, 115, 116], 3)]
def rightb : Nt → Option Nt
  | .imp => some .or
  | .til => some .unary
  | _ => none
def righty : Nt → Bs → Option Int
  | .imp, s => if s = [45, 62] then some 13 else none
  | .til, s => if s = [85] then some 15 else if s = [82] then some 16 else none
  | _, _ => none
inductive Reads (names : List ByteArray) : Nt → List Sy → List Tk → List Sy → Prop
  | left {nt b m : Nt} {ws ws1 ws2 : List Sy} {l1 l2 : List Tk} : lefty nt = some (b, m) → Reads names b ws l1 ws1 → Reads names m ws1 l2 ws2 → Reads names nt ws (l1 ++ l2) ws2
  | more {nt b : Nt} {s : Bs} {op k : Int} {ws ws1 ws2 : List Sy} {l1 l2 : List Tk} : morely nt = some (s, op, b) → Reads names b ws l1 ws1 → Reads names nt ws1 l2 ws2 → Reads names nt ((k, s) :: ws) (l1 ++ [(⟨op, 0⟩ : Tk)] ++ l2) ws2
  | rest {nt b : Nt} {s : Bs} {op : Int} {ws : List Sy} : morely nt = some (s, op, b) → nextS ws ≠ s → Reads names nt ws [] ws
  | star {k : Int} {ws ws1 : List Sy} {l : List Tk} : Reads names .stars ws l ws1 → Reads names .stars ((k, [42]) :: ws) ([(⟨23, 0⟩ : Tk)] ++ l) ws1
  | unstar {ws : List Sy} : nextS ws ≠ [42] → Reads names .stars ws [] ws
  | one {nt b : Nt} {ws ws1 : List Sy} {l : List Tk} : rightb nt = some b → Reads names b ws l ws1 → righty nt (nextS ws1) = none → Reads names nt ws l ws1
  | right {nt b : Nt} {s : Bs} {op k : Int} {ws ws1 ws2 : List Sy} {l1 l2 : List Tk} : rightb nt = some b → righty nt s = some op → Reads names b ws l1 ((k, s) :: ws1) → Reads names nt ws1 l2 ws2 → Reads names nt ws (l1 ++ l2 ++ [(⟨op, 0⟩ : Tk)]) ws2
  | pre {s : Bs} {op k : Int} {ws ws1 : List Sy} {l : List Tk} : (s, op) ∈ pres → Reads names .unary ws l ws1 → Reads names .unary ((k, s) :: ws) (l ++ [(⟨op, 0⟩ : Tk)]) ws1
  | modal {o s : Bs} {op k1 k2 : Int} {ws ws1 ws2 : List Sy} {l1 l2 : List Tk} : (o, s, op) ∈ modals → Reads names .plus ws l1 ((k2, s) :: ws1) → Reads names .unary ws1 l2 ws2 → Reads names .unary ((k1, o) :: ws) (l1 ++ l2 ++ [(⟨op, 0⟩ : Tk)]) ws2
  | atom {ws ws1 : List Sy} {l : List Tk} : (∀ p ∈ pres, nextS ws ≠ p.1) → (∀ p ∈ modals, nextS ws ≠ p.1) → Reads names .atom ws l ws1 → Reads names .unary ws l ws1
  | word {s : Bs} {op k : Int} {ws : List Sy} : (s, op) ∈ words0 → Reads names .atom ((k, s) :: ws) [(⟨op, 0⟩ : Tk)] ws
  | paren {k1 k2 : Int} {ws ws1 : List Sy} {l : List Tk} : Reads names .iff ws l ((k2, [41]) :: ws1) → Reads names .atom ((k1, [40]) :: ws) l ws1
  | name {s : Bs} {ws : List Sy} {i : Nat} : (∀ p ∈ words0, s ≠ p.1) → s ≠ [40] → s ≠ [] → placeOf names s = some i → Reads names .atom ((2, s) :: ws) [(⟨2, (i : Int)⟩ : Tk)] ws
  | step {k1 k2 : Int} {ws ws1 : List Sy} {l : List Tk} : Reads names .iff ws l ((k2, [125]) :: ws1) → Reads names .bare ((k1, [123]) :: ws) (l ++ [(⟨19, 0⟩ : Tk)]) ws1
  | test {k1 : Int} {ws ws1 : List Sy} {l : List Tk} : Reads names .unary ws l ws1 → Reads names .bare ((k1, [63]) :: ws) (l ++ [(⟨20, 0⟩ : Tk)]) ws1
  | group {k1 k2 : Int} {ws ws1 : List Sy} {l : List Tk} : Reads names .plus ws l ((k2, [41]) :: ws1) → Reads names .bare ((k1, [40]) :: ws) l ws1
theorem next_sy (r : Rd) : nextS (r.ws.map sy) = r.next := by
  unfold Rd.next
  cases r.ws <;> rfl
theorem map_next {r : Rd} {s : Bs} (hs : s ≠ []) (h : r.next = s) : ∃ k, r.ws.map sy = (k, s) :: (r.pop.ws.map sy) := by
  unfold Rd.next at h
  unfold Rd.pop
  cases hw : r.ws with
  | nil => rw [hw] at h; exact absurd h.symm hs
  | cons w t =>
    rw [hw] at h
    refine ⟨w.f0, ?_⟩
    show (w.f0, w.f1.data.toList) :: t.map sy = (w.f0, s) :: (List.drop 1 (w :: t)).map sy
    rw [show w.f1.data.toList = s from h]; rfl
theorem want_go2 {r r' : Rd} {last : Int} {s : Bs} {f : Rd → Option End} (hs : s ≠ []) (h : r.want last s f = some (.go r')) : r.next = s ∧ f r.pop = some (.go r') := by
  unfold Rd.want at h
  split at h
  · rename_i hn; exact ⟨hn, h⟩
  · cases h
theorem name_go2 {r r' : Rd} {names : List ByteArray} {last : Int} (h : r.name names last = some (.go r')) : ∃ i s ws, r.ws.map sy = (2, s) :: ws ∧ s ≠ [] ∧ placeOf names s = some i ∧ r'.ws.map sy = ws ∧ r'.out = r.out ++ [(⟨2, (i : Int)⟩ : Tk)] ∧ r.next = s := by
  unfold Rd.name at h
  cases hw : r.ws with
  | nil => rw [hw] at h; cases h
  | cons w t =>
    rw [hw] at h
    simp only at h
    split at h
    · cases h
    · rename_i hne
      split at h
      · cases h
      · rename_i i hi
        have h2 := Option.some.inj h
        injection h2 with h2
        subst h2
        rw [not_or] at hne
        refine ⟨i, w.f1.data.toList, t.map sy, ?_, hne.1, hi, ?_, rfl, ?_⟩
        · show (w.f0, w.f1.data.toList) :: t.map sy = _
          rw [Classical.not_not.1 hne.2]
        · show ((w :: t).drop 1).map sy = _
          rfl
        · unfold Rd.next; rw [hw]
theorem run_reads (names : List ByteArray) (last : Int) (n : Nat) : ∀ nt (r r' : Rd), run names last n nt r = some (.go r') → ∃ l, Reads names nt (r.ws.map sy) l (r'.ws.map sy) ∧ r'.out = r.out ++ l := by
  induction n with
  | zero => intro nt r r' h; rw [run] at h; cases h
  | succ n ih =>
    have go1 : ∀ {r r' : Rd}, (some (End.go r) : Option End) = some (.go r') → r' = r := by intro r r' h; injection h with h; injection h with h; exact h.symm
    have two : ∀ (nt a b : Nt) (r r' : Rd), lefty nt = some (a, b) → thenDo (run names last n a r) (run names last n b) = some (.go r') → ∃ l, Reads names nt (r.ws.map sy) l (r'.ws.map sy) ∧ r'.out = r.out ++ l := by
      intro nt a b r r' hl h
      obtain ⟨r1, h1, h2⟩ := then_go h
      obtain ⟨l1, d1, o1⟩ := ih a r r1 h1
      obtain ⟨l2, d2, o2⟩ := ih b r1 r' h2
      exact ⟨l1 ++ l2, .left hl d1 d2, by rw [o2, o1, List.append_assoc]⟩
    have more : ∀ (nt : Nt) (s : Bs) (a : Nt) (op : Int) (r r' : Rd), s ≠ [] → morely nt = some (s, op, a) → (if r.next = s then thenDo (run names last n a r.pop) (fun r => run names last n nt (r.put op)) else some (.go r)) = some (.go r') → ∃ l, Reads names nt (r.ws.map sy) l (r'.ws.map sy) ∧ r'.out = r.out ++ l := by
      intro nt s a op r r' hs hm h
      split at h
      · rename_i hn
        obtain ⟨r1, h1, h2⟩ := then_go h
        obtain ⟨l1, d1, o1⟩ := ih a r.pop r1 h1
        obtain ⟨l2, d2, o2⟩ := ih nt _ r' h2
        obtain ⟨k, hk⟩ := map_next hs hn
        rw [hk]
        refine ⟨_, .more hm d1 d2, ?_⟩
        rw [o2, show (r1.put op).out = r1.out ++ [⟨op, 0⟩] from rfl, o1, show r.pop.out = r.out from rfl]
        simp only [List.append_assoc]
      · rename_i hn
        rw [go1 h]
        exact ⟨[], .rest hm (by rw [next_sy]; exact hn), by rw [List.append_nil]⟩
    have un : ∀ (s : Bs) (a : Nt) (op : Int) (r r' : Rd), s ≠ [] → r.next = s → thenDo (run names last n a r.pop) (fun r => some (.go (r.put op))) = some (.go r') → ∃ l k, Reads names a (r.pop.ws.map sy) l (r'.ws.map sy) ∧ r.ws.map sy = (k, s) :: r.pop.ws.map sy ∧ r'.out = r.out ++ (l ++ [(⟨op, 0⟩ : Tk)]) := by
      intro s a op r r' hs hn h
      obtain ⟨r1, h1, h2⟩ := then_go h
      obtain ⟨l1, d1, o1⟩ := ih a r.pop r1 h1
      obtain ⟨k, hk⟩ := map_next hs hn
      rw [go1 h2]
      refine ⟨l1, k, d1, hk, ?_⟩
      rw [show (r1.put op).out = r1.out ++ [⟨op, 0⟩] from rfl, o1, show r.pop.out = r.out from rfl, List.append_assoc]
    have modal : ∀ (s s2 : Bs) (op : Int) (r r' : Rd), s ≠ [] → s2 ≠ [] → (s, s2, op) ∈ modals → r.next = s → thenDo (run names last n .plus r.pop) (fun r => r.want last s2 (fun r => thenDo (run names last n .unary r) (fun r => some (.go (r.put op))))) = some (.go r') → ∃ l, Reads names .unary (r.ws.map sy) l (r'.ws.map sy) ∧ r'.out = r.out ++ l := by
      intro s s2 op r r' hs hs2 hm hn h
      obtain ⟨r1, h1, h2⟩ := then_go h
      obtain ⟨l1, d1, o1⟩ := ih .plus r.pop r1 h1
      obtain ⟨h4, h6⟩ := want_go2 hs2 h2
      obtain ⟨l2, k2, d2, -, o2⟩ : ∃ l2 k2, Reads names .unary (r1.pop.ws.map sy) l2 (r'.ws.map sy) ∧ r1.ws.map sy = (k2, s2) :: r1.pop.ws.map sy ∧ r'.out = r1.out ++ (l2 ++ [(⟨op, 0⟩ : Tk)]) := un s2 .unary op r1 r' hs2 h4 h6
      obtain ⟨k1, hk1⟩ := map_next hs hn
      obtain ⟨k2', hk2⟩ := map_next hs2 h4
      rw [hk1]
      rw [hk2] at d1
      refine ⟨_, .modal hm d1 d2, ?_⟩
      rw [o2, o1, show r.pop.out = r.out from rfl]
      simp only [List.append_assoc]
    have paren : ∀ (s s2 : Bs) (a : Nt) (f : Rd → Rd) (r r' : Rd), s ≠ [] → s2 ≠ [] → (∀ q, (f q).ws = q.ws) → r.next = s → thenDo (run names last n a r.pop) (fun r => r.want last s2 (fun r => some (.go (f r)))) = some (.go r') → ∃ l k k2 q, r.ws.map sy = (k, s) :: r.pop.ws.map sy ∧ Reads names a (r.pop.ws.map sy) l ((k2, s2) :: r'.ws.map sy) ∧ q.out = r.out ++ l ∧ r' = f q := by
      intro s s2 a f r r' hs hs2 hf hn h
      obtain ⟨r1, h1, h2⟩ := then_go h
      obtain ⟨l1, d1, o1⟩ := ih a r.pop r1 h1
      obtain ⟨h4, h6⟩ := want_go2 hs2 h2
      obtain ⟨k1, hk1⟩ := map_next hs hn
      obtain ⟨k2, hk2⟩ := map_next hs2 h4
      have h7 := go1 h6
      refine ⟨l1, k1, k2, r1.pop, hk1, ?_, ?_, h7⟩
      · rw [h7, hf, ← hk2]; exact d1
      · exact o1
    have word : ∀ (s : Bs) (op : Int) (r r' : Rd), s ≠ [] → (s, op) ∈ words0 → r.next = s → (some (End.go (r.put op).pop) : Option End) = some (.go r') → ∃ l, Reads names .atom (r.ws.map sy) l (r'.ws.map sy) ∧ r'.out = r.out ++ l := by
      intro s op r r' hs hm hn h
      obtain ⟨k, hk⟩ := map_next hs hn
      rw [go1 h, hk]
      exact ⟨_, .word hm, rfl⟩
    intro nt r r' h
    cases nt with
    | iff => rw [run] at h; exact two _ _ _ r r' rfl h
    | or => rw [run] at h; exact two _ _ _ r r' rfl h
    | and => rw [run] at h; exact two _ _ _ r r' rfl h
    | plus => rw [run] at h; exact two _ _ _ r r' rfl h
    | seq => rw [run] at h; exact two _ _ _ r r' rfl h
    | star => rw [run] at h; exact two _ _ _ r r' rfl h
    | moreIff => rw [run] at h; exact more _ _ _ _ r r' (by decide) rfl h
    | moreOr => rw [run] at h; exact more _ _ _ _ r r' (by decide) rfl h
    | moreAnd => rw [run] at h; exact more _ _ _ _ r r' (by decide) rfl h
    | morePlus => rw [run] at h; exact more _ _ _ _ r r' (by decide) rfl h
    | moreSeq => rw [run] at h; exact more _ _ _ _ r r' (by decide) rfl h
    | stars =>
      rw [run] at h
      split at h
      · rename_i hn
        obtain ⟨l, d, o⟩ := ih .stars _ r' h
        obtain ⟨k, hk⟩ := map_next (by decide) hn
        rw [hk]
        refine ⟨_, .star d, ?_⟩
        rw [o, show (r.pop.put 23).out = r.out ++ [⟨23, 0⟩] from rfl, List.append_assoc]
      · rename_i hn
        rw [go1 h]
        exact ⟨[], .unstar (by rw [next_sy]; exact hn), by rw [List.append_nil]⟩
    | imp =>
      rw [run] at h
      obtain ⟨r1, h1, h2⟩ := then_go h
      obtain ⟨l1, d1, o1⟩ := ih .or r r1 h1
      split at h2
      · rename_i hn
        obtain ⟨l2, k, d2, hk, o2⟩ := un _ .imp 13 r1 r' (by decide) hn h2
        rw [hk] at d1
        refine ⟨_, .right rfl rfl d1 d2, ?_⟩
        rw [o2, o1]; simp only [List.append_assoc]
      · rename_i hn
        rw [go1 h2]
        exact ⟨l1, .one rfl d1 (by rw [next_sy]; exact if_neg hn), o1⟩
    | til =>
      rw [run] at h
      obtain ⟨r1, h1, h2⟩ := then_go h
      obtain ⟨l1, d1, o1⟩ := ih .unary r r1 h1
      split at h2
      · rename_i hn
        obtain ⟨l2, k, d2, hk, o2⟩ := un _ .til 15 r1 r' (by decide) hn h2
        rw [hk] at d1
        refine ⟨_, .right rfl rfl d1 d2, ?_⟩
        rw [o2, o1]; simp only [List.append_assoc]
      · rename_i hn0
        split at h2
        · rename_i hn
          obtain ⟨l2, k, d2, hk, o2⟩ := un _ .til 16 r1 r' (by decide) hn h2
          rw [hk] at d1
          refine ⟨_, .right rfl rfl d1 d2, ?_⟩
          rw [o2, o1]; simp only [List.append_assoc]
        · rename_i hn
          rw [go1 h2]
          exact ⟨l1, .one rfl d1 (by rw [next_sy]; show (if r1.next = [85] then some (15 : Int) else if r1.next = [82] then some 16 else none) = none; rw [if_neg hn0, if_neg hn]), o1⟩
    | unary =>
      have pre : ∀ (s : Bs) (op : Int), s ≠ [] → (s, op) ∈ pres → r.next = s → thenDo (run names last n .unary r.pop) (fun r => some (.go (r.put op))) = some (.go r') → ∃ l, Reads names .unary (r.ws.map sy) l (r'.ws.map sy) ∧ r'.out = r.out ++ l := by
        intro s op hs hm hn h
        obtain ⟨l, k, d, hk, o⟩ := un s .unary op r r' hs hn h
        rw [hk]
        exact ⟨_, .pre hm d, o⟩
      rw [run] at h
      split at h
      · rename_i hn; exact pre _ _ (by decide) (by decide) hn h
      rename_i n1
      split at h
      · rename_i hn; exact pre _ _ (by decide) (by decide) hn h
      rename_i n2
      split at h
      · rename_i hn; exact pre _ _ (by decide) (by decide) hn h
      rename_i n3
      split at h
      · rename_i hn; exact pre _ _ (by decide) (by decide) hn h
      rename_i n4
      split at h
      · rename_i hn; exact pre _ _ (by decide) (by decide) hn h
      rename_i n5
      split at h
      · rename_i hn; exact modal _ _ _ r r' (by decide) (by decide) (by decide) hn h
      rename_i n6
      split at h
      · rename_i hn; exact modal _ _ _ r r' (by decide) (by decide) (by decide) hn h
      rename_i n7
      obtain ⟨l, d, o⟩ := ih .atom r r' h
      refine ⟨l, .atom ?_ ?_ d, o⟩
      · rw [next_sy]
        intro p hp
        simp only [pres, List.mem_cons, List.not_mem_nil, or_false] at hp
        rcases hp with rfl | rfl | rfl | rfl | rfl <;> assumption
      · rw [next_sy]
        intro p hp
        simp only [modals, List.mem_cons, List.not_mem_nil, or_false] at hp
        rcases hp with rfl | rfl <;> assumption
    | atom =>
      rw [run] at h
      split at h
      · rename_i hn; exact word _ _ r r' (by decide) (by decide) hn h
      rename_i n1
      split at h
      · rename_i hn; exact word _ _ r r' (by decide) (by decide) hn h
      rename_i n2
      split at h
      · rename_i hn; exact word _ _ r r' (by decide) (by decide) hn h
      rename_i n3
      split at h
      · rename_i hn
        obtain ⟨l, k, k2, q, hk, d, o, e⟩ := paren _ _ .iff (fun q => q) r r' (by decide) (by decide) (fun q => rfl) hn h
        rw [hk]
        exact ⟨_, .paren d, by rw [e]; exact o⟩
      · rename_i n4
        obtain ⟨i, s, ws, h1, h2, h3, h4, h5, h6⟩ := name_go2 h
        rw [h1, h4]
        refine ⟨_, .name ?_ (by rw [← h6]; exact n4) h2 h3, h5⟩
        intro p hp
        simp only [words0, List.mem_cons, List.not_mem_nil, or_false] at hp
        rw [← h6]
        rcases hp with rfl | rfl | rfl <;> assumption
    | bare =>
      rw [run] at h
      split at h
      · rename_i hn
        obtain ⟨l, k, k2, q, hk, d, o, e⟩ := paren _ _ .iff (fun q => q.put 19) r r' (by decide) (by decide) (fun q => rfl) hn h
        rw [hk]
        exact ⟨_, .step d, by rw [e, show (q.put 19).out = q.out ++ [⟨19, 0⟩] from rfl, o, List.append_assoc]⟩
      split at h
      · rename_i hn
        obtain ⟨l, k, d, hk, o⟩ := un _ .unary 20 r r' (by decide) hn h
        rw [hk]
        exact ⟨_, .test d, o⟩
      split at h
      · rename_i hn
        obtain ⟨l, k, k2, q, hk, d, o, e⟩ := paren _ _ .plus (fun q => q) r r' (by decide) (by decide) (fun q => rfl) hn h
        rw [hk]
        exact ⟨_, .group d, by rw [e]; exact o⟩
      · cases h
end Go.Proofs.YtaogoabnidbbpaaDoor.PText
/-! TextLexes -/
namespace Go.Proofs.YtaogoabnidbbpaaDoor.PText
open Go.RowKit Go.Proofs.YtaogoabnidbbpaaDoorW.PrintWords Go.Proofs.YtaogoabnidbbpaaDoorW.PrintLast Go.Proofs.YtaogoabnidbbpaaDoorW.PrintMore
set_option linter.unusedVariables false
set_option linter.unusedSimpArgs false
inductive LexR : Bs → List Sy → Prop
  | nil : LexR [] []
  | blank {t : Bs} {ws : List Sy} : LexR t ws → LexR (32 :: t) ws
  | word {c : UInt8} {t : Bs} {ws : List Sy} : c ≠ 32 → firstL (c :: t) ≠ [] → LexR ((c :: t).drop (firstL (c :: t)).length) ws → LexR (c :: t) (((sortL (firstL (c :: t))).1, firstL (c :: t)) :: ws)
theorem sy_mk (k : Int) (w : Bs) (i : Int) : sy ⟨k, bytesB w, i⟩ = (k, w) := rfl
theorem lex_to (n : Nat) : ∀ (s : Bs) (i : Nat) (ws : List Wd), s.length ≤ n → lexF n s i = .ok ws → LexR s (ws.map sy) := by
  induction n with
  | zero =>
    intro s i ws hs h
    obtain rfl := List.length_eq_zero_iff.1 (Nat.le_zero.1 hs)
    rw [lexF] at h; cases h; exact .nil
  | succ n ih =>
    intro s i ws hs h
    cases s with
    | nil => rw [lexF] at h; cases h; exact .nil
    | cons c t =>
      rw [List.length_cons] at hs
      rw [lexF_cons] at h
      split at h
      · rename_i hc; subst hc; exact .blank (ih t _ ws (by omega) h)
      · rename_i hc
        split at h
        · cases h
        · rename_i hne
          have h4 : 1 ≤ (firstL (c :: t)).length := List.length_pos_iff.2 hne
          cases h2 : lexF n ((c :: t).drop (firstL (c :: t)).length) (i + (firstL (c :: t)).length) with
          | error e => rw [h2] at h; cases h
          | ok ws2 =>
            rw [h2] at h
            cases h
            have h3 := ih _ _ _ (by rw [List.length_drop, List.length_cons]; omega) h2
            rw [List.map_cons, sy_mk]
            exact .word hc hne h3
end Go.Proofs.YtaogoabnidbbpaaDoor.PText
/-! TextRuns -/
namespace Go.Proofs.YtaogoabnidbbpaaDoor.PText
open Go.RowKit Go.Proofs.YtaogoabnidbbpaaDoorW.PrintWords Go.Proofs.YtaogoabnidbbpaaDoorW.PrintLast Go.Proofs.YtaogoabnidbbpaaDoorW.PrintMore
set_option linter.unusedVariables false
theorem reads_len {names : List ByteArray} {nt : Nt} {ws ws1 : List Sy} {l : List Tk} (h : Reads names nt ws l ws1) : ws1.length ≤ ws.length := by
  induction h with
  | left _ _ _ i1 i2 => omega
  | more _ _ _ i1 i2 => rw [List.length_cons]; omega
  | rest _ _ => exact Nat.le_refl _
  | star _ i => rw [List.length_cons]; omega
  | unstar _ => exact Nat.le_refl _
  | one _ _ _ i => exact i
  | right _ _ _ _ i1 i2 => rw [List.length_cons] at i1; omega
  | pre _ _ i => rw [List.length_cons]; omega
  | modal _ _ _ i1 i2 => rw [List.length_cons] at i1 ⊢; omega
  | atom _ _ _ i => exact i
  | word _ => rw [List.length_cons]; omega
  | paren _ i => rw [List.length_cons] at i ⊢; omega
  | name _ _ _ _ => rw [List.length_cons]; omega
  | step _ i => rw [List.length_cons] at i ⊢; omega
  | test _ i => rw [List.length_cons]; omega
  | group _ i => rw [List.length_cons] at i ⊢; omega
theorem run_left {nt b m : Nt} (h : lefty nt = some (b, m)) (names : List ByteArray) (last : Int) (n : Nat) (r : Rd) : run names last (n + 1) nt r = thenDo (run names last n b r) (run names last n m) := by
  cases nt <;> cases h <;> rw [run]
theorem run_more {nt b : Nt} {s : Bs} {op : Int} (h : morely nt = some (s, op, b)) (names : List ByteArray) (last : Int) (n : Nat) (r : Rd) :
    run names last (n + 1) nt r = if r.next = s then thenDo (run names last n b r.pop) (fun r => run names last n nt (r.put op)) else some (.go r) := by
  cases nt <;> cases h <;> rw [run]
theorem more_ne {nt b : Nt} {s : Bs} {op : Int} (h : morely nt = some (s, op, b)) : s ≠ [] := by
  cases nt <;> cases h <;> decide
theorem righty_imp (s : Bs) : righty .imp s = if s = [45, 62] then some 13 else none := rfl
theorem righty_til (s : Bs) : righty .til s = if s = [85] then some 15 else if s = [82] then some 16 else none := rfl
def rank : Nt → Nat
  | .iff => 6 | .imp => 5 | .or => 4 | .and => 3 | .til => 2 | .unary => 1 | .atom => 0 | .plus => 6 | .seq => 5 | .star => 4 | .bare => 3 | _ => 0
theorem run_ws {names : List ByteArray} {last : Int} {n : Nat} {nt : Nt} {r r' : Rd} (h : run names last n nt r = some (.go r')) : r'.ws.length ≤ r.ws.length := by
  obtain ⟨l, d, -⟩ := run_reads names last n nt r r' h
  have := reads_len d
  rwa [List.length_map, List.length_map] at this
theorem pop_ws {r : Rd} (h : 1 ≤ r.ws.length) : r.pop.ws.length + 1 = r.ws.length := by
  show (r.ws.drop 1).length + 1 = _
  rw [List.length_drop]; omega
/-- With rounds enough it comes to an end. -/
theorem run_total (names : List ByteArray) (last : Int) (n : Nat) : ∀ (nt : Nt) (r : Rd), 8 * r.ws.length + rank nt < n → ∃ e, run names last n nt r = some e := by
  induction n with
  | zero => intro nt r h; omega
  | succ n ih =>
    have then_ok : ∀ (a : Nt) (r : Rd) (f : Rd → Option End), 8 * r.ws.length + rank a < n → (∀ r1, r1.ws.length ≤ r.ws.length → ∃ e, f r1 = some e) → ∃ e, thenDo (run names last n a r) f = some e := by
      intro a r f hb hf
      obtain ⟨e1, h1⟩ := ih a r hb
      rw [h1]
      cases e1 with
      | stop x y => exact ⟨_, rfl⟩
      | go r1 => exact hf r1 (run_ws h1)
    have put_ok : ∀ (a : Nt) (s : Bs) (r : Rd) (f : Rd → Rd), s ≠ [] → r.next = s → 8 * r.ws.length ≤ n → rank a < 8 → ∃ e, thenDo (run names last n a r.pop) (fun r => some (.go (f r))) = some e := by
      intro a s r f hs hn hb hr
      have := pop_ws (next_ws hs hn)
      exact then_ok a r.pop _ (by omega) (fun r1 _ => ⟨_, rfl⟩)
    have want_ok : ∀ (a : Nt) (s s2 : Bs) (r : Rd) (f : Rd → Option End), s ≠ [] → s2 ≠ [] → r.next = s → 8 * r.ws.length ≤ n → rank a < 8 → (∀ r1, r1.ws.length + 2 ≤ r.ws.length → ∃ e, f r1 = some e) → ∃ e, thenDo (run names last n a r.pop) (fun r => r.want last s2 f) = some e := by
      intro a s s2 r f hs hs2 hn hb hr hf
      have hp := pop_ws (next_ws hs hn)
      refine then_ok a r.pop _ (by omega) (fun r1 h1 => ?_)
      unfold Rd.want
      split
      · rename_i h2
        have h3 := pop_ws (next_ws hs2 h2)
        exact hf r1.pop (by omega)
      · exact ⟨_, rfl⟩
    have left_ok : ∀ (nt b m : Nt) (r : Rd), lefty nt = some (b, m) → rank b < rank nt → rank m = 0 → 8 * r.ws.length + rank nt < n + 1 → ∃ e, run names last (n + 1) nt r = some e := by
      intro nt b m r hl h1 h2 hb
      rw [run_left hl]
      exact then_ok b r _ (by omega) (fun r1 h3 => ih m r1 (by omega))
    have more_ok : ∀ (nt b : Nt) (s : Bs) (op : Int) (r : Rd), morely nt = some (s, op, b) → rank nt = 0 → rank b < 8 → 8 * r.ws.length + rank nt < n + 1 → ∃ e, run names last (n + 1) nt r = some e := by
      intro nt b s op r hm h1 h2 hb
      rw [run_more hm]
      split
      · rename_i hn
        have hp := pop_ws (next_ws (more_ne hm) hn)
        exact then_ok b r.pop _ (by omega) (fun r1 h3 => ih nt (r1.put op) (by rw [put_ws]; omega))
      · exact ⟨_, rfl⟩
    intro nt r hb
    cases nt with
    | iff => exact left_ok _ _ _ r rfl (by decide) rfl hb
    | or => exact left_ok _ _ _ r rfl (by decide) rfl hb
    | and => exact left_ok _ _ _ r rfl (by decide) rfl hb
    | plus => exact left_ok _ _ _ r rfl (by decide) rfl hb
    | seq => exact left_ok _ _ _ r rfl (by decide) rfl hb
    | star => exact left_ok _ _ _ r rfl (by decide) rfl hb
    | moreIff => exact more_ok _ _ _ _ r rfl rfl (by decide) hb
    | moreOr => exact more_ok _ _ _ _ r rfl rfl (by decide) hb
    | moreAnd => exact more_ok _ _ _ _ r rfl rfl (by decide) hb
    | morePlus => exact more_ok _ _ _ _ r rfl rfl (by decide) hb
    | moreSeq => exact more_ok _ _ _ _ r rfl rfl (by decide) hb
    | stars =>
      rw [run]
      split
      · rename_i hn
        have hp := pop_ws (next_ws (by decide) hn)
        exact ih .stars _ (by rw [put_ws]; simp only [rank] at hb ⊢; omega)
      · exact ⟨_, rfl⟩
    | imp =>
      rw [run]
      simp only [rank] at hb
      refine then_ok .or r _ (by simp only [rank]; omega) (fun r1 h1 => ?_)
      split
      · rename_i hn; exact put_ok .imp _ r1 _ (by decide) hn (by omega) (by decide)
      · exact ⟨_, rfl⟩
    | til =>
      rw [run]
      simp only [rank] at hb
      refine then_ok .unary r _ (by simp only [rank]; omega) (fun r1 h1 => ?_)
      split
      · rename_i hn; exact put_ok .til _ r1 _ (by decide) hn (by omega) (by decide)
      · split
        · rename_i hn; exact put_ok .til _ r1 _ (by decide) hn (by omega) (by decide)
        · exact ⟨_, rfl⟩
    | unary =>
      simp only [rank] at hb
      have modal_ok : ∀ (s s2 : Bs) (op : Int), s ≠ [] → s2 ≠ [] → r.next = s → ∃ e, thenDo (run names last n .plus r.pop) (fun r => r.want last s2 (fun r => thenDo (run names last n .unary r) (fun r => some (.go (r.put op))))) = some e := by
        intro s s2 op hs hs2 hn
        exact want_ok .plus s s2 r _ hs hs2 hn (by omega) (by decide) (fun r1 h1 => then_ok .unary r1 _ (by simp only [rank]; omega) (fun r2 _ => ⟨_, rfl⟩))
      rw [run]
      split
      · rename_i hn; exact put_ok .unary _ r _ (by decide) hn (by omega) (by decide)
      split
      · rename_i hn; exact put_ok .unary _ r _ (by decide) hn (by omega) (by decide)
      split
      · rename_i hn; exact put_ok .unary _ r _ (by decide) hn (by omega) (by decide)
      split
      · rename_i hn; exact put_ok .unary _ r _ (by decide) hn (by omega) (by decide)
      split
      · rename_i hn; exact put_ok .unary _ r _ (by decide) hn (by omega) (by decide)
      split
      · rename_i hn; exact modal_ok _ _ _ (by decide) (by decide) hn
      split
      · rename_i hn; exact modal_ok _ _ _ (by decide) (by decide) hn
      · exact ih .atom r (by simp only [rank]; omega)
    | atom =>
      simp only [rank] at hb
      rw [run]
      split
      · exact ⟨_, rfl⟩
      split
      · exact ⟨_, rfl⟩
      split
      · exact ⟨_, rfl⟩
      split
      · rename_i hn
        exact want_ok .iff _ _ r _ (by decide) (by decide) hn (by omega) (by decide) (fun r1 _ => ⟨_, rfl⟩)
      · unfold Rd.name
        split
        · exact ⟨_, rfl⟩
        · split
          · exact ⟨_, rfl⟩
          · split <;> exact ⟨_, rfl⟩
    | bare =>
      simp only [rank] at hb
      rw [run]
      split
      · rename_i hn
        exact want_ok .iff _ _ r _ (by decide) (by decide) hn (by omega) (by decide) (fun r1 _ => ⟨_, rfl⟩)
      split
      · rename_i hn; exact put_ok .unary _ r _ (by decide) hn (by omega) (by decide)
      split
      · rename_i hn
        exact want_ok .plus _ _ r _ (by decide) (by decide) hn (by omega) (by decide) (fun r1 _ => ⟨_, rfl⟩)
      · exact ⟨_, rfl⟩
end Go.Proofs.YtaogoabnidbbpaaDoor.PText
