/- Texts of this work merged into one file, what the law does not need left out: TextReader; TextMethods; TextSlim; RefReader; RefLevels; RefOp; RefMore; RefAt; RefPath; RefStar; RefBare; RefUnary; RefAtom; RefAll. Conditions stand in each law. -/
import Derived.WalkSmall
import Derived.Test.YtaogoabnidbbpaaGreatDoorSt8
import Derived.Test.YtaogoabnidbbpaaGreatDoorSt12
namespace Go.Proofs.YtaogoabnidbbpaaGreatDoor.PText
open Go.RowKit Go.Proofs.YtaogoabnidbbpaaGreatDoorW.PrintWords Go.Proofs.YtaogoabnidbbpaaGreatDoorW.PrintLast Go.Proofs.YtaogoabnidbbpaaGreatDoorW.PrintMore Go.Proofs.YtaogoabnidbbpaaGreatDoorW.Aid
set_option linter.unusedVariables false
set_option linter.unusedSimpArgs false
/-- The reader in block g of world W: names and words lie in w0, below what was new since. -/
def RdAt (w0 : World) (g : Nat) (nm : Option Addr) (nn cn : Nat) (last : Int) (W : World) (r : Rd) : Prop :=
 ∃ A c vo, W.heap[g]? = some (.cells #[.slice nm nn cn, .slice A r.ws.length c, .int .i64 last, vo] 96 (0, 0)) ∧ w0.heap.size ≤ g ∧ Kd.C k114 w0 A r.ws.length r.ws ∧ r.ws.length ≤ c ∧ Kd.R k41 41 W w0.heap.size (fun k => k ≠ g) vo r.out ∧ Below w0.heap.size w0 W
theorem next_nil {r : Rd} (h : r.ws = []) : r.next = [] := by unfold Rd.next; rw [h]
theorem next_rd {r : Rd} (h : r.ws ≠ []) : bytesB r.next = (rd_T114 r.ws 0).f1 := by
 unfold Rd.next rd_T114
 cases hw : r.ws with
 | nil => exact absurd hw h
 | cons w t => rfl
set_option maxHeartbeats 4000000 in
set_option maxRecDepth 100000 in
theorem next_calls (w0 : World) (g : Nat) (nm : Option Addr) (nn cn : Nat) (last : Int) (r : Rd) (W : World) (h : RdAt w0 g nm nn cn last W r) :
  Calls Tryz.prog 93 #[.pointer (some ⟨g, 0, none⟩)] W fun e w' => e = .returned (.string (bytesB r.next)) ∧ Drawn0 W w' := by
 obtain ⟨A, c, vo, hb, hg, hC, hc, hR, hB⟩ := h
 have HR := Aside0.mk hR
 have HC := Aside0.mk hC
 have HB := Aside0.mk hB
 have d1 : W.cell? ⟨g, 1, none⟩ = some (.slice A r.ws.length c) := (blk_cell hb 1).trans rfl
 clear hR hC hB hb hg hc
 by_cases h0 : r.ws = []
 ·have hn := Aside0.mk (next_nil h0)
  have hz : Aside0 (r.ws.length = 0) := ⟨by rw [h0]; rfl⟩
  rw [hz.out] at d1
  clear h0
  go_enter Tryz.func93, Tryz.ntmps93
  go_wp2
  go_ret
  exact ⟨by rw [hn.out]; rfl, ⟨0, rfl⟩⟩
 ·have hn := Aside0.mk (next_rd h0)
  have hpos : 0 < r.ws.length := List.length_pos_iff.2 h0
  have c1 : ((r.ws.length : Int) == 0) = false := beq_eq_false_iff_ne.2 (by omega)
  have c2 := eq_true (show (0 : Int) < (r.ws.length : Int) by omega)
  obtain ⟨ad, ead, hx0, hx1, hx2⟩ := at_T114 HC.out 0 (by omega) (by omega)
  cases ead
  have y1 : W.cell? ⟨ad.block, ad.off + 1, none⟩ = some (.string (rd_T114 r.ws 0).f1) := (HB.out.cell (World.block_lt_of_cell? w0 _ hx1)).trans hx1
  clear hx0 hx1 hx2 h0
  go_enter Tryz.func93, Tryz.ntmps93
  go_wp2
  go_ret
  exact ⟨by rw [hn.out]; rfl, ⟨0, rfl⟩⟩
theorem RdAt.drewN {w0 : World} {g : Nat} {nm : Option Addr} {nn cn : Nat} {last : Int} {r : Rd} {W : World} (h : RdAt w0 g nm nn cn last W r) (m : Nat) : RdAt w0 g nm nn cn last (W.drewN m) r := by
 obtain ⟨A, c, vo, hb, hg, hC, hc, hR, hB⟩ := h
 exact ⟨A, c, vo, hb, hg, hC, hc, Kd.R_drewN hR _, pw_below_drewN hB _⟩
/-- The words behind the first, stored. -/
theorem RdAt.pop_set {w0 : World} {g : Nat} {nm : Option Addr} {nn cn : Nat} {last : Int} {r : Rd} {W : World} {A : Option Addr} {c : Nat} {vo : Value} (hb : W.heap[g]? = some (.cells #[.slice nm nn cn, .slice A r.ws.length c, .int .i64 last, vo] 96 (0, 0)))
  (hg : w0.heap.size ≤ g) (hC : Kd.C k114 w0 A r.ws.length r.ws) (hc : r.ws.length ≤ c) (hR : Kd.R k41 41 W w0.heap.size (fun k => k ≠ g) vo r.out) (hB : Below w0.heap.size w0 W) (hpos : 1 ≤ r.ws.length) :
  RdAt w0 g nm nn cn last (W.setCell ⟨g, 1, none⟩ (.slice (if c = 1 then A else A.map (·.add 3)) (r.ws.length - 1) (c - 1))) r.pop := by
 have hd := Kd.C_drop (m := 1) (c := c) hC hpos hc
 have hl : r.pop.ws.length = r.ws.length - 1 := by show (r.ws.drop 1).length = _; rw [List.length_drop]
 refine ⟨_, c - 1, vo, ?_, hg, hd, by rw [hl]; omega, ?_, below_set hB hg⟩
 ·rw [hl]
  exact blk_put hb 1 _ rfl
 ·exact Kd.R_mono (Kd.R_far hR (fun _ hk => hk) _) (fun _ hk => hk)
set_option maxHeartbeats 4000000 in
set_option maxRecDepth 100000 in
theorem take_calls (w0 : World) (g : Nat) (nm : Option Addr) (nn cn : Nat) (last : Int) (r : Rd) (s : Bs) (hs : s ≠ []) (W : World) (h : RdAt w0 g nm nn cn last W r) :
  Calls Tryz.prog 79 #[.pointer (some ⟨g, 0, none⟩), .string (bytesB s)] W fun e w' => e = .returned (.bool (decide (r.next = s))) ∧ RdAt w0 g nm nn cn last w' (if r.next = s then r.pop else r) := by
 have HI := Aside0.mk h
 by_cases hns : r.next = s
 ·rw [if_pos hns, decide_eq_true hns]
  have e1 : ((bytesB r.next).toList == (bytesB s).toList) = true := by rw [bytes_eq, bytes_eq, beq_iff_eq]; exact hns
  have e2 : ((bytesB r.next).toList != (bytesB s).toList) = false := by rw [bytes_eq, bytes_eq, bne_eq_false_iff_eq]; exact hns
  have hne : r.ws ≠ [] := by intro e; rw [next_nil e] at hns; exact hs hns.symm
  have hpos : 1 ≤ r.ws.length := List.length_pos_iff.2 hne
  clear hns h hne
  obtain ⟨A, c, vo, hb, hg, hC, hc, hR, hB⟩ := HI.out
  have d1 : W.cell? ⟨g, 1, none⟩ = some (.slice A r.ws.length c) := (blk_cell hb 1).trans rfl
  have f1 := blk_frozen hb 1
  have HP := Aside0.mk (fun nd => RdAt.pop_set (W := W.drewN nd) hb hg hC hc (Kd.R_drewN hR _) (pw_below_drewN hB _) hpos)
  have g1 := eq_true (show (1 : Int) ≤ (r.ws.length : Int) by omega)
  have g2 := eq_true (show (r.ws.length : Int) ≤ (c : Int) by omega)
  have g3 := eq_true (show 1 ≤ r.ws.length by omega)
  have g4 := eq_true (show r.ws.length ≤ c by omega)
  clear hb hg hC hR hB
  by_cases hc1 : c = 1
  ·subst hc1
   have hl1 : Aside0 (r.ws.length - 1 = 0) := ⟨by omega⟩
   clear hc
   go_enter Tryz.func79, Tryz.ntmps79
   go_wp2_with (go_at_call 93; refine (next_calls w0 g nm nn cn last r _ HI.out).mono ?_; rintro e w' ⟨rfl, ⟨nd, rfl⟩⟩)
   go_ret
   have hp := HP.out nd
   first | rw [if_pos rfl] at hp | rw [if_pos trivial] at hp
   rw [hl1.out] at hp
   exact ⟨rfl, hp⟩
  ·clear hc
   go_enter Tryz.func79, Tryz.ntmps79
   go_wp2_with (go_at_call 93; refine (next_calls w0 g nm nn cn last r _ HI.out).mono ?_; rintro e w' ⟨rfl, ⟨nd, rfl⟩⟩)
   go_ret
   have hp := HP.out nd
   rw [if_neg hc1] at hp
   exact ⟨rfl, hp⟩
 ·rw [if_neg hns, decide_eq_false hns]
  have e1 : ((bytesB r.next).toList == (bytesB s).toList) = false := by rw [bytes_eq, bytes_eq, beq_eq_false_iff_ne]; exact hns
  have e2 : ((bytesB r.next).toList != (bytesB s).toList) = true := by rw [bytes_eq, bytes_eq, bne_iff_ne]; exact hns
  clear hns h
  go_enter Tryz.func79, Tryz.ntmps79
  go_wp2_with (go_at_call 93; refine (next_calls w0 g nm nn cn last r _ HI.out).mono ?_; rintro e w' ⟨rfl, ⟨nd, rfl⟩⟩)
  go_ret
  exact ⟨rfl, RdAt.drewN HI.out nd⟩
set_option maxHeartbeats 4000000 in
set_option maxRecDepth 100000 in
theorem put_calls (w0 : World) (g : Nat) (nm : Option Addr) (nn cn : Nat) (last : Int) (r : Rd) (op : Int) (hlen : r.out.length ≤ 1099511627776) (W : World) (h : RdAt w0 g nm nn cn last W r) :
  Calls Tryz.prog 80 #[.pointer (some ⟨g, 0, none⟩), .int .u8 op] W fun e w' => e = .returned (.tuple #[]) ∧ RdAt w0 g nm nn cn last w' (r.put op) := by
 obtain ⟨A, c, vo, hb, hg, hC, hc, hR, hB⟩ := h
 have HG := Aside0.mk hg
 have HC := Aside0.mk hC
 have Hc := Aside0.mk hc
 have HR := Aside0.mk hR
 have HB := Aside0.mk hB
 have HBK := Aside0.mk hb
 have HL := Aside0.mk hlen
 have hglt := Aside0.mk (blk_lt hb)
 have hvo : Aside0 (some g ≠ vo.ownBlock) := ⟨fun e => hR.1 g e.symm rfl⟩
 have d3 : W.cell? ⟨g, 3, none⟩ = some vo := (blk_cell hb 3).trans rfl
 have f3 := blk_frozen hb 3
 obtain ⟨Ao, co, eo⟩ := Kd.R_slice hR
 subst eo
 clear hg hC hc hR hB hb hlen
 go_enter Tryz.func80, Tryz.ntmps80
 go_wp2_with ((with_reducible refine gate_builtin (b := .append) (xs := #[.tmp 8, .tmp 11]) rfl ?_); at_builtin; refine Kd.R_append k41 (w0 := w0) w0.heap.size rfl (.tmp 8) (.tmp 11) 23 41 (.agg #[(.int .u8 0), (.int .u8 0)]) 2 rfl Tryz.underlying23 info41 rfl (by decide) (by omega) (.slice Ao r.out.length co) r.out (⟨op, 0⟩ : Tk) [.int .u8 op, .int .u8 0] (fun k => k ≠ g) (fun _ => False) rfl rfl ?aP (fun _ hk => hk.elim) ?aF ?aO ?aB ?aS ?aL ?_; (case aP => exact k41_mkM _ _ _ (⟨op, 0⟩ : Tk)); (case aB => exact HB.out); (case aF => exact (fun k hk e => absurd hglt.out (by rw [← e]; exact Nat.not_lt.2 hk))); (case aO => exact HR.out); (case aS => exact HB.out.size); (case aL => have := HL.out; omega); intro v1 w1 ho hb hg hat; obtain ⟨A2, c2, e2⟩ := Kd.R_slice ho; subst e2; have HO := Aside0.mk ho; have HB2 := Aside0.mk hb; have HBK2 := Aside0.mk (blk_grown HBK.out hg hvo.out); have f4 := blk_frozen HBK2.out 3; have d4 : w1.cell? ⟨g, 3, none⟩ = some (.slice Ao r.out.length co) := (blk_cell HBK2.out 3).trans rfl; clear ho hb hg hat HB HR)
 go_end0
 have hl : (r.out ++ [(⟨op, 0⟩ : Tk)]).length = r.out.length + 1 := by rw [List.length_append]; rfl
 have h2 := HO.out
 rw [hl] at h2
 have h3 := Kd.R_far (p := ⟨g, 3, none⟩) h2 (fun _ hk => hk) (.slice A2 (r.out.length + 1) c2)
 exact ⟨rfl, A, c, .slice A2 (r.out.length + 1) c2, blk_put HBK2.out 3 _ rfl, HG.out, HC.out, Hc.out, h3, below_set HB2.out HG.out⟩
/-- What the reader throws. -/
def thrown (e at_ : Int) : Ending := .panicked [{ v := .iface 93 (.agg #[.int .i64 e, .int .i64 at_]), recovered := false }]
theorem place_nil {r : Rd} (last : Int) (h : r.ws = []) : r.place last = last := by unfold Rd.place; rw [h]
theorem place_rd {r : Rd} (last : Int) (h : r.ws ≠ []) : r.place last = (rd_T114 r.ws 0).f2 := by
 unfold Rd.place rd_T114
 cases hw : r.ws with
 | nil => exact absurd hw h
 | cons w t => rfl
set_option maxHeartbeats 4000000 in
set_option maxRecDepth 100000 in
theorem fail_calls (w0 : World) (g : Nat) (nm : Option Addr) (nn cn : Nat) (last : Int) (r : Rd) (er : Int) (W : World) (h : RdAt w0 g nm nn cn last W r) :
  Calls Tryz.prog 49 #[.pointer (some ⟨g, 0, none⟩), .int .i64 er] W fun e w' => e = thrown er (r.place last) ∧ Below w0.heap.size w0 w' := by
 obtain ⟨A, c, vo, hb, hg, hC, hc, hR, hB⟩ := h
 have HC := Aside0.mk hC
 have HB := Aside0.mk hB
 have d1 : W.cell? ⟨g, 1, none⟩ = some (.slice A r.ws.length c) := (blk_cell hb 1).trans rfl
 have d2 : W.cell? ⟨g, 2, none⟩ = some (.int .i64 last) := (blk_cell hb 2).trans rfl
 clear hR hC hB hb hg hc
 by_cases h0 : r.ws = []
 ·have hn := Aside0.mk (place_nil last h0)
  have hz : Aside0 (r.ws.length = 0) := ⟨by rw [h0]; rfl⟩
  rw [hz.out] at d1
  clear h0
  rw [hn.out]
  go_enter Tryz.func49, Tryz.ntmps49
  go_wp2
  exact ⟨rfl, rfl, HB.out⟩
 ·have hn := Aside0.mk (place_rd last h0)
  have hpos : 0 < r.ws.length := List.length_pos_iff.2 h0
  have c1 : decide ((0 : Int) < (r.ws.length : Int)) = true := decide_eq_true (by omega)
  have c2 := eq_true (show (0 : Int) < (r.ws.length : Int) by omega)
  obtain ⟨ad, ead, hx0, hx1, hx2⟩ := at_T114 HC.out 0 (by omega) (by omega)
  cases ead
  have y2 : W.cell? ⟨ad.block, ad.off + 2, none⟩ = some (.int .i64 (rd_T114 r.ws 0).f2) := (HB.out.cell (World.block_lt_of_cell? w0 _ hx2)).trans hx2
  clear hx0 hx1 hx2 h0
  rw [hn.out]
  go_enter Tryz.func49, Tryz.ntmps49
  go_wp2
  exact ⟨rfl, rfl, HB.out⟩
/-- How a method's end is told of the memory: it goes on with the reader's block, or it throws. -/
def Told (w0 : World) (g : Nat) (nm : Option Addr) (nn cn : Nat) (last : Int) : End → Ending → World → Prop
 | .go r, e, w' => e = .returned (.tuple #[]) ∧ RdAt w0 g nm nn cn last w' r
 | .stop er a, e, w' => e = thrown er a ∧ Below w0.heap.size w0 w'
def wantE (last : Int) (s : Bs) (r : Rd) : End := if r.next = s then .go r.pop else r.fail last 150
set_option maxHeartbeats 4000000 in
set_option maxRecDepth 100000 in
theorem want_calls (w0 : World) (g : Nat) (nm : Option Addr) (nn cn : Nat) (last : Int) (r : Rd) (s : Bs) (hs : s ≠ []) (W : World) (h : RdAt w0 g nm nn cn last W r) :
  Calls Tryz.prog 97 #[.pointer (some ⟨g, 0, none⟩), .string (bytesB s)] W (Told w0 g nm nn cn last (wantE last s r)) := by
 have HI := Aside0.mk h
 have HT := take_calls w0 g nm nn cn last r s hs W h
 clear h
 by_cases hns : r.next = s
 ·unfold wantE
  rw [if_pos hns] at HT ⊢
  rw [decide_eq_true hns] at HT
  have HTA := Aside0.mk HT
  clear HT hns
  go_enter Tryz.func97, Tryz.ntmps97
  go_wp2_with (go_at_call 79; refine HTA.out.mono ?_; rintro e w' ⟨rfl, hI2⟩)
  go_end0
  exact ⟨rfl, hI2⟩
 ·unfold wantE
  rw [if_neg hns] at HT ⊢
  rw [decide_eq_false hns] at HT
  have HTA := Aside0.mk HT
  clear HT hns
  go_enter Tryz.func97, Tryz.ntmps97
  go_wp2_with (first | (go_at_call 79; refine HTA.out.mono ?_; rintro e w' ⟨rfl, hI2⟩; have HI2 := Aside0.mk hI2; clear hI2) | (go_at_call 49; refine (fail_calls w0 g nm nn cn last r 150 _ HI2.out).mono ?_; rintro e w' ⟨rfl, hb⟩; unfold thrown))
  exact ⟨rfl, rfl, hb⟩
def Rd.size (r : Rd) : Nat := r.out.length + r.ws.length
theorem pop_size (r : Rd) : r.pop.size ≤ r.size := by
 unfold Rd.size Rd.pop
 show r.out.length + (r.ws.drop 1).length ≤ _
 rw [List.length_drop]
 omega
theorem next_ws {r : Rd} {s : Bs} (hs : s ≠ []) (h : r.next = s) : 1 ≤ r.ws.length := by
 rcases Nat.eq_zero_or_pos r.ws.length with h0 | h0
 ·have := next_nil (List.length_eq_zero_iff.1 h0)
  rw [this] at h
  exact absurd h.symm hs
 ·exact h0
/-- Which function a method is; the loops inside are none. -/
def fnOf : Nt → Nat
 | .iff => 48 | .imp => 63 | .or => 82 | .and => 95
 | .til => 99 | .unary => 98 | .atom => 103 | .plus => 47
 | .seq => 62 | .star => 81 | .bare => 94
 | _ => 0
/-- What one method does, and does not grow. -/
def Does (names : List ByteArray) (w0 : World) (g : Nat) (nm : Option Addr) (nn cn : Nat) (last : Int) (n : Nat) (nt : Nt) : Prop :=
 ∀ (r : Rd) (e : End), run names last n nt r = some e → r.size ≤ 1099511627775 → ∀ W, RdAt w0 g nm nn cn last W r → Calls Tryz.prog (fnOf nt) #[.pointer (some ⟨g, 0, none⟩)] W (Told w0 g nm nn cn last e)
/-- A method never makes what is left and out together longer. -/
def Slim (names : List ByteArray) (last : Int) (n : Nat) (nt : Nt) : Prop := ∀ (r r' : Rd), run names last n nt r = some (.go r') → r'.size ≤ r.size
set_option maxHeartbeats 4000000 in
set_option maxRecDepth 100000 in
theorem imp_does (names : List ByteArray) (w0 : World) (g : Nat) (nm : Option Addr) (nn cn : Nat) (last : Int) (n : Nat) (sOr : Slim names last n .or) (sImp : Slim names last n .imp)
  (dOr : Does names w0 g nm nn cn last n .or) (dImp : Does names w0 g nm nn cn last n .imp) : Does names w0 g nm nn cn last (n + 1) .imp := by
 intro r e hrun hsz W hI
 rw [run] at hrun
 have HI := Aside0.mk hI
 clear hI
 cases h1 : run names last n .or r with
 | none => rw [h1] at hrun; cases hrun
 | some e1 =>
  rw [h1] at hrun
  have D1 := Aside0.mk (dOr r e1 h1 hsz)
  cases e1 with
  | stop er a =>
   obtain rfl : e = .stop er a := by cases hrun; rfl
   clear hrun h1
   show Calls Tryz.prog 63 _ W _
   go_enter Tryz.func63, Tryz.ntmps63
   go_wp2_with (go_at_call 82; refine (D1.out W HI.out).mono ?_; rintro e w' ⟨rfl, hb⟩; unfold thrown)
   exact ⟨rfl, rfl, hb⟩
  | go r1 =>
   have hr1 := sOr r r1 h1
   clear h1
   have hrun2 : (if r1.next = [45, 62] then thenDo (run names last n .imp r1.pop) (fun r => some (.go (r.put 13))) else some (.go r1)) = some e := hrun
   clear hrun
   by_cases hn : r1.next = [45, 62]
   ·rw [if_pos hn] at hrun2
    have hws := next_ws (by decide) hn
    have hps := pop_size r1
    cases h2 : run names last n .imp r1.pop with
    | none => rw [h2] at hrun2; cases hrun2
    | some e2 =>
     rw [h2] at hrun2
     have D2 := Aside0.mk (dImp r1.pop e2 h2 (by omega))
     have HT := Aside0.mk (fun W h => take_calls w0 g nm nn cn last r1 [45, 62] (by decide) W h)
     have HN := Aside0.mk hn
     rw [if_pos hn, decide_eq_true hn] at HT
     clear hn
     cases e2 with
     | stop er a =>
      obtain rfl : e = .stop er a := by cases hrun2; rfl
      clear hrun2 h2
      show Calls Tryz.prog 63 _ W _
      go_enter Tryz.func63, Tryz.ntmps63
      go_wp2_with (first | (go_at_call 82; refine (D1.out W HI.out).mono ?_; rintro e w' ⟨rfl, hI2⟩; have HI2 := Aside0.mk hI2; clear hI2) | (go_at_call 79; refine (HT.out _ HI2.out).mono ?_; rintro e w' ⟨rfl, hI3⟩; have HI3 := Aside0.mk hI3; clear hI3) | (go_at_call 63; refine (D2.out _ HI3.out).mono ?_; rintro e w' ⟨rfl, hb⟩; unfold thrown))
      exact ⟨rfl, rfl, hb⟩
     | go r2 =>
      obtain rfl : e = .go (r2.put 13) := by cases hrun2; rfl
      have hr2 := sImp r1.pop r2 h2
      have hlo : r2.out.length ≤ 1099511627776 := by unfold Rd.size at *; omega
      have HP := Aside0.mk (fun W h => put_calls w0 g nm nn cn last r2 13 hlo W h)
      clear hrun2 h2 hr2 hlo
      show Calls Tryz.prog 63 _ W _
      go_enter Tryz.func63, Tryz.ntmps63
      go_wp2_with (first | (go_at_call 82; refine (D1.out W HI.out).mono ?_; rintro e w' ⟨rfl, hI2⟩; have HI2 := Aside0.mk hI2; clear hI2) | (go_at_call 79; refine (HT.out _ HI2.out).mono ?_; rintro e w' ⟨rfl, hI3⟩; have HI3 := Aside0.mk hI3; clear hI3) | (go_at_call 63; refine (D2.out _ HI3.out).mono ?_; rintro e w' ⟨rfl, hI4⟩; have HI4 := Aside0.mk hI4; clear hI4) | (go_at_call 80; refine (HP.out _ HI4.out).mono ?_; rintro e w' ⟨rfl, hI5⟩))
      go_end0
      exact ⟨rfl, hI5⟩
   ·rw [if_neg hn] at hrun2
    obtain rfl : e = .go r1 := by cases hrun2; rfl
    have HT := Aside0.mk (fun W h => take_calls w0 g nm nn cn last r1 [45, 62] (by decide) W h)
    rw [if_neg hn, decide_eq_false hn] at HT
    clear hrun2 hn
    show Calls Tryz.prog 63 _ W _
    go_enter Tryz.func63, Tryz.ntmps63
    go_wp2_with (first | (go_at_call 82; refine (D1.out W HI.out).mono ?_; rintro e w' ⟨rfl, hI2⟩; have HI2 := Aside0.mk hI2; clear hI2) | (go_at_call 79; refine (HT.out _ HI2.out).mono ?_; rintro e w' ⟨rfl, hI3⟩))
    go_end0
    exact ⟨rfl, hI3⟩
end Go.Proofs.YtaogoabnidbbpaaGreatDoor.PText
namespace Go.Proofs.YtaogoabnidbbpaaGreatDoor.PText
open Go.RowKit Go.Proofs.YtaogoabnidbbpaaGreatDoorW.PrintWords Go.Proofs.YtaogoabnidbbpaaGreatDoorW.PrintLast Go.Proofs.YtaogoabnidbbpaaGreatDoorW.PrintMore
set_option linter.unusedVariables false
set_option linter.unusedSimpArgs false
theorem then_go {x : Option End} {f : Rd → Option End} {r' : Rd} (h : thenDo x f = some (.go r')) : ∃ r1, x = some (.go r1) ∧ f r1 = some (.go r') := by
 cases x with
 | none => cases h
 | some e => cases e with
  | stop a b => cases h
  | go r1 => exact ⟨r1, rfl, h⟩
theorem pop_one {r : Rd} (h : 1 ≤ r.ws.length) : r.pop.size + 1 = r.size := by
 unfold Rd.size Rd.pop
 show r.out.length + (r.ws.drop 1).length + 1 = _
 rw [List.length_drop]; omega
theorem put_one (r : Rd) (op : Int) : (r.put op).size = r.size + 1 := by
 unfold Rd.size Rd.put
 show (r.out ++ [_]).length + r.ws.length = _
 rw [List.length_append, List.length_cons, List.length_nil]; omega
theorem put_ws (r : Rd) (op : Int) : (r.put op).ws = r.ws := rfl
theorem want_go {r r' : Rd} {last : Int} {s : Bs} {f : Rd → Option End} (hs : s ≠ []) (h : r.want last s f = some (.go r')) : 1 ≤ r.ws.length ∧ f r.pop = some (.go r') := by
 unfold Rd.want at h
 split at h
 ·rename_i hn; exact ⟨next_ws hs hn, h⟩
 ·cases h
theorem name_go {r r' : Rd} {names : List ByteArray} {last : Int} (h : r.name names last = some (.go r')) : r'.size = r.size := by
 unfold Rd.name at h
 cases hw : r.ws with
 | nil => rw [hw] at h; cases h
 | cons w t =>
  rw [hw] at h
  simp only at h
  split at h
  ·cases h
  ·split at h
   ·cases h
   ·have h2 := Option.some.inj h
    injection h2 with h2
    subst h2
    unfold Rd.size Rd.pop
    show (r.out ++ [_]).length + (List.drop 1 (w :: t)).length = r.out.length + r.ws.length
    rw [hw, List.length_append, List.length_drop]
    simp
    omega
theorem run_slim (names : List ByteArray) (last : Int) (n : Nat) : ∀ nt, Slim names last n nt := by
 induction n with
 | zero => intro nt r r' h; rw [run] at h; cases h
 | succ n ih =>
  have go1 : ∀ {r r' : Rd}, (some (End.go r) : Option End) = some (.go r') → r' = r := by intro r r' h; injection h with h; injection h with h; exact h.symm
  have two : ∀ (a b : Nt) (r r' : Rd), thenDo (run names last n a r) (run names last n b) = some (.go r') → r'.size ≤ r.size := by
   intro a b r r' h
   obtain ⟨r1, h1, h2⟩ := then_go h
   exact Nat.le_trans (ih b r1 r' h2) (ih a r r1 h1)
  have more : ∀ (s : Bs) (a b : Nt) (op : Int) (r r' : Rd), s ≠ [] → (if r.next = s then thenDo (run names last n a r.pop) (fun r => run names last n b (r.put op)) else some (.go r)) = some (.go r') → r'.size ≤ r.size := by
   intro s a b op r r' hs h
   split at h
   ·rename_i hn
    obtain ⟨r1, h1, h2⟩ := then_go h
    have h3 := ih a r.pop r1 h1
    have h4 := ih b _ r' h2
    rw [put_one] at h4
    have h5 := pop_one (next_ws hs hn)
    omega
   ·rw [go1 h]; exact Nat.le_refl _
  have un : ∀ (s : Bs) (a : Nt) (op : Int) (r r' : Rd), s ≠ [] → r.next = s → thenDo (run names last n a r.pop) (fun r => some (.go (r.put op))) = some (.go r') → r'.size ≤ r.size := by
   intro s a op r r' hs hn h
   obtain ⟨r1, h1, h2⟩ := then_go h
   have h3 := ih a r.pop r1 h1
   rw [go1 h2, put_one]
   have h5 := pop_one (next_ws hs hn)
   omega
  have modal : ∀ (s s2 : Bs) (op : Int) (r r' : Rd), s ≠ [] → s2 ≠ [] → r.next = s → thenDo (run names last n .plus r.pop) (fun r => r.want last s2 (fun r => thenDo (run names last n .unary r) (fun r => some (.go (r.put op))))) = some (.go r') → r'.size ≤ r.size := by
   intro s s2 op r r' hs hs2 hn h
   obtain ⟨r1, h1, h2⟩ := then_go h
   have h3 := ih .plus r.pop r1 h1
   obtain ⟨h4, h6⟩ := want_go hs2 h2
   obtain ⟨r2, h7, h8⟩ := then_go h6
   have h9 := ih .unary r1.pop r2 h7
   rw [go1 h8, put_one]
   have h5 := pop_one (next_ws hs hn)
   have h10 := pop_one h4
   omega
  have paren : ∀ (s s2 : Bs) (a : Nt) (f : Rd → Rd) (r r' : Rd), s ≠ [] → s2 ≠ [] → (∀ q, (f q).size ≤ q.size + 1) → r.next = s → thenDo (run names last n a r.pop) (fun r => r.want last s2 (fun r => some (.go (f r)))) = some (.go r') → r'.size ≤ r.size := by
   intro s s2 a f r r' hs hs2 hf hn h
   obtain ⟨r1, h1, h2⟩ := then_go h
   have h3 := ih a r.pop r1 h1
   obtain ⟨h4, h6⟩ := want_go hs2 h2
   rw [go1 h6]
   have h5 := pop_one (next_ws hs hn)
   have h10 := pop_one h4
   have h11 := hf r1.pop
   omega
  have word : ∀ (s : Bs) (op : Int) (r r' : Rd), s ≠ [] → r.next = s → (some (End.go (r.put op).pop) : Option End) = some (.go r') → r'.size ≤ r.size := by
   intro s op r r' hs hn h
   rw [go1 h]
   have h5 := pop_one (r := r.put op) (by rw [put_ws]; exact next_ws hs hn)
   rw [put_one] at h5
   omega
  intro nt r r' h
  cases nt with
  | iff => rw [run] at h; exact two _ _ r r' h
  | or => rw [run] at h; exact two _ _ r r' h
  | and => rw [run] at h; exact two _ _ r r' h
  | plus => rw [run] at h; exact two _ _ r r' h
  | seq => rw [run] at h; exact two _ _ r r' h
  | star => rw [run] at h; exact two _ _ r r' h
  | moreIff => rw [run] at h; exact more _ _ _ _ r r' (by decide) h
  | moreOr => rw [run] at h; exact more _ _ _ _ r r' (by decide) h
  | moreAnd => rw [run] at h; exact more _ _ _ _ r r' (by decide) h
  | morePlus => rw [run] at h; exact more _ _ _ _ r r' (by decide) h
  | moreSeq => rw [run] at h; exact more _ _ _ _ r r' (by decide) h
  | stars =>
   rw [run] at h
   split at h
   ·rename_i hn
    have h1 := ih .stars _ r' h
    rw [put_one] at h1
    have h5 := pop_one (next_ws (by decide) hn)
    omega
   ·rw [go1 h]; exact Nat.le_refl _
  | imp =>
   rw [run] at h
   obtain ⟨r1, h1, h2⟩ := then_go h
   have h3 := ih .or r r1 h1
   split at h2
   ·rename_i hn
    have := un _ .imp 13 r1 r' (by decide) hn h2
    omega
   ·rw [go1 h2]; exact h3
  | til =>
   rw [run] at h
   obtain ⟨r1, h1, h2⟩ := then_go h
   have h3 := ih .unary r r1 h1
   split at h2
   ·rename_i hn
    have := un _ .til 15 r1 r' (by decide) hn h2
    omega
   ·split at h2
    ·rename_i hn
     have := un _ .til 16 r1 r' (by decide) hn h2
     omega
    ·rw [go1 h2]; exact h3
  | unary =>
   rw [run] at h
   split at h
   ·rename_i hn; exact un _ .unary _ r r' (by decide) hn h
   split at h
   ·rename_i hn; exact un _ .unary _ r r' (by decide) hn h
   split at h
   ·rename_i hn; exact un _ .unary _ r r' (by decide) hn h
   split at h
   ·rename_i hn; exact un _ .unary _ r r' (by decide) hn h
   split at h
   ·rename_i hn; exact un _ .unary _ r r' (by decide) hn h
   split at h
   ·rename_i hn; exact modal _ _ _ r r' (by decide) (by decide) hn h
   split at h
   ·rename_i hn; exact modal _ _ _ r r' (by decide) (by decide) hn h
   ·exact ih .atom r r' h
  | atom =>
   rw [run] at h
   split at h
   ·rename_i hn; exact word _ _ r r' (by decide) hn h
   split at h
   ·rename_i hn; exact word _ _ r r' (by decide) hn h
   split at h
   ·rename_i hn; exact word _ _ r r' (by decide) hn h
   split at h
   ·rename_i hn; exact paren _ _ .iff (fun q => q) r r' (by decide) (by decide) (fun q => Nat.le_succ _) hn h
   ·exact Nat.le_of_eq (name_go h)
  | bare =>
   rw [run] at h
   split at h
   ·rename_i hn; exact paren _ _ .iff (fun q => q.put 19) r r' (by decide) (by decide) (fun q => Nat.le_of_eq (put_one q 19)) hn h
   split at h
   ·rename_i hn; exact un _ .unary _ r r' (by decide) hn h
   split at h
   ·rename_i hn; exact paren _ _ .plus (fun q => q) r r' (by decide) (by decide) (fun q => Nat.le_succ _) hn h
   ·cases h
end Go.Proofs.YtaogoabnidbbpaaGreatDoor.PText
namespace Go.Proofs.YtaogoabnidbbpaaGreatDoor.PText
open Go.RowKit Go.Proofs.YtaogoabnidbbpaaGreatDoorW.PrintWords Go.Proofs.YtaogoabnidbbpaaGreatDoorW.PrintLast Go.Proofs.YtaogoabnidbbpaaGreatDoorW.PrintMore Go.Proofs.YtaogoabnidbbpaaGreatDoorW.Aid
set_option linter.unusedVariables false
set_option linter.unusedSimpArgs false
/-- What a reader is made of: names, words, the text's length; where they lie, and the reader's block. -/
structure Rc where
 names : List ByteArray
 ws : List Wd
 last : Int
 w0 : World
 g : Nat
 A : Option Addr
 c : Nat
 nm : Option Addr
 cn : Nat
/-- Names and words lie in w0. -/
def Rc.ok (q : Rc) : Prop := Kd.C k114 q.w0 q.A q.ws.length q.ws ∧ q.ws.length ≤ q.c ∧ q.ws.length ≤ 4096 ∧ Kd.C Kd.string q.w0 q.nm q.names.length q.names ∧ q.names.length ≤ q.cn ∧ q.names.length ≤ 8 ∧ q.w0.heap.size ≤ q.g
/-- The reader's block in world W: the place among the words, the error, its place. -/
def Rf (q : Rc) (W : World) (a : Nat) (er pl : Int) : Prop := W.heap[q.g]? = some (.cells #[.slice q.A q.ws.length q.c, .int .i64 (a : Int), .int .i64 q.last, .slice q.nm q.names.length q.cn, .int .i64 er, .int .i64 pl] 102 (0, 0)) ∧ Below q.w0.heap.size q.w0 W
/-- The words that are left. -/
def Rc.rd (q : Rc) (a : Nat) : Rd := ⟨q.ws.drop a, []⟩
theorem Rf.drewN {q : Rc} {W : World} {a : Nat} {er pl : Int} (h : Rf q W a er pl) (m : Nat) : Rf q (W.drewN m) a er pl := ⟨blk_drewN h.1 m, pw_below_drewN h.2 m⟩
theorem Rf.drew {q : Rc} {W : World} {a : Nat} {er pl : Int} (h : Rf q W a er pl) : Rf q W.drew a er pl := ⟨blk_drew h.1, below_drew1 h.2⟩
theorem rd_next (q : Rc) (a : Nat) (h : a < q.ws.length) : (rd_T114 q.ws (a : Int)).f1 = bytesB (q.rd a).next ∧ (rd_T114 q.ws (a : Int)).f2 = (q.rd a).place q.last := by
 have e : rd_T114 q.ws (a : Int) = q.ws[a] := by unfold rd_T114; rw [Int.toNat_natCast, List.getD_eq_getElem?_getD, List.getElem?_eq_getElem h]; rfl
 unfold Rc.rd Rd.next Rd.place
 rw [e, List.drop_eq_getElem_cons h]
 exact ⟨rfl, rfl⟩
theorem rd_none (q : Rc) (a : Nat) (h : ¬ a < q.ws.length) : (q.rd a).next = [] ∧ (q.rd a).place q.last = q.last := by
 unfold Rc.rd Rd.next Rd.place
 rw [List.drop_of_length_le (by omega)]
 exact ⟨rfl, rfl⟩
/-- The word at a place of the list, in memory. -/
theorem rd_cells {q : Rc} {W : World} {a : Nat} {er pl : Int} (hq : q.ok) (h : Rf q W a er pl) (ha : a < q.ws.length) : ∃ ad, q.A = some ad ∧ W.cell? ⟨(ad.add (a * 3)).block, (ad.add (a * 3)).off + 1, none⟩ = some (.string (bytesB (q.rd a).next)) ∧ W.cell? ⟨(ad.add (a * 3)).block, (ad.add (a * 3)).off + 2, none⟩ = some (.int .i64 ((q.rd a).place q.last)) ∧ (ad.add (a * 3)).block < q.w0.heap.size := by
 obtain ⟨ad, ead, hx0, hx1, hx2⟩ := at_T114 hq.1 (a : Int) (by omega) (by omega)
 rw [Int.toNat_natCast] at hx0 hx1 hx2
 rw [(rd_next q a ha).1] at hx1
 rw [(rd_next q a ha).2] at hx2
 exact ⟨ad, ead, (h.2.cell (World.block_lt_of_cell? q.w0 _ hx1)).trans hx1, (h.2.cell (World.block_lt_of_cell? q.w0 _ hx2)).trans hx2, by have h7 := World.block_lt_of_cell? q.w0 _ hx1; exact h7⟩
def isB (q : Rc) (a : Nat) (er : Int) (s : Bs) : Bool := decide (er = 0) && decide ((q.rd a).next = s)
set_option maxHeartbeats 8000000 in
set_option maxRecDepth 100000 in
theorem is_calls (q : Rc) (hq : q.ok) (W : World) (a : Nat) (er pl : Int) (s : Bs) (hs : s ≠ []) (h : Rf q W a er pl) :
  Calls Tryz.prog 67 #[.pointer (some ⟨q.g, 0, none⟩), .string (bytesB s)] W fun e w' => e = .returned (.bool (isB q a er s)) ∧ Drawn0 W w' := by
 have HQ := Aside0.mk hq
 have HF := Aside0.mk h
 have d0 : W.cell? ⟨q.g, 0, none⟩ = some (.slice q.A q.ws.length q.c) := (blk_cell h.1 0).trans rfl
 have d1 : W.cell? ⟨q.g, 1, none⟩ = some (.int .i64 (a : Int)) := (blk_cell h.1 1).trans rfl
 have d4 : W.cell? ⟨q.g, 4, none⟩ = some (.int .i64 er) := (blk_cell h.1 4).trans rfl
 clear h hq
 unfold isB
 by_cases he : er = 0
 ·subst he
  by_cases ha : a < q.ws.length
  ·obtain ⟨ad, ead, hx1, -⟩ := rd_cells HQ.out HF.out ha
   have c1 : decide (a < q.ws.length) = true := decide_eq_true ha
   have c2 : decide ((a : Int) < (q.ws.length : Int)) = true := decide_eq_true (by omega)
   have p1 := eq_true (show (0 : Int) ≤ (a : Int) by omega)
   have p2 := eq_true ha
   rw [ead] at d0
   by_cases hn : (q.rd a).next = s
   ·have c3 : ((bytesB (q.rd a).next).toList == (bytesB s).toList) = true := by rw [bytes_eq, bytes_eq, beq_iff_eq]; exact hn
    rw [decide_eq_true hn, Bool.and_true]
    clear ha hn ead HQ HF hs
    go_enter Tryz.func67, Tryz.ntmps67
    go_wp2
    go_region
    all_goals go_wp2
    all_goals go_ret
    all_goals exact ⟨rfl, by repeat (first | exact Drawn0.refl _ | apply Drawn0.step)⟩
   ·have c3 : ((bytesB (q.rd a).next).toList == (bytesB s).toList) = false := by rw [bytes_eq, bytes_eq, beq_eq_false_iff_ne]; exact hn
    rw [decide_eq_false hn, Bool.and_false]
    clear ha hn ead HQ HF hs
    go_enter Tryz.func67, Tryz.ntmps67
    go_wp2
    go_region
    all_goals go_wp2
    all_goals go_ret
    all_goals exact ⟨rfl, by repeat (first | exact Drawn0.refl _ | apply Drawn0.step)⟩
  ·have hn : (q.rd a).next ≠ s := by rw [(rd_none q a ha).1]; exact fun e => hs e.symm
   have c1 : decide (a < q.ws.length) = false := decide_eq_false ha
   have c2 : decide ((a : Int) < (q.ws.length : Int)) = false := decide_eq_false (by omega)
   rw [decide_eq_false hn, Bool.and_false]
   clear ha hn HQ HF hs
   go_enter Tryz.func67, Tryz.ntmps67
   go_wp2
   go_region
   all_goals go_wp2
   all_goals go_ret
   all_goals exact ⟨rfl, by repeat (first | exact Drawn0.refl _ | apply Drawn0.step)⟩
 ·have c0 : (er == 0) = false := beq_eq_false_iff_ne.2 he
  rw [decide_eq_false he, Bool.false_and]
  clear he HQ HF hs
  go_enter Tryz.func67, Tryz.ntmps67
  go_wp2
  go_region
  all_goals go_wp2
  all_goals go_ret
  all_goals exact ⟨rfl, by repeat (first | exact Drawn0.refl _ | apply Drawn0.step)⟩
/-- Every block but the reader's stays. -/
abbrev KeepG (g : Nat) (W W' : World) : Prop := KeepBut W W' g none
theorem KeepG.refl (g : Nat) (W : World) : KeepG g W W := KeepBut.refl _ _ _
theorem KeepG.trans {g : Nat} {W W1 W2 : World} (h : KeepG g W W1) (k : KeepG g W1 W2) : KeepG g W W2 := KeepBut.trans h k (.inl rfl)
theorem KeepG.drewN {g : Nat} {W W1 : World} (h : KeepG g W W1) (m : Nat) : KeepG g W (W1.drewN m) := keep_drewN h m
theorem KeepG.drew {g : Nat} {W W1 : World} (h : KeepG g W W1) : KeepG g W W1.drew := keep_drew h
theorem KeepG.alloc {g : Nat} {W W1 : World} (h : KeepG g W W1) (o' : Obj) : KeepG g W (W1.alloc o') := keep_alloc h o'
theorem KeepG.set {g i : Nat} {W W1 : World} (h : KeepG g W W1) (v : Value) : KeepG g W (W1.setCell ⟨g, i, none⟩ v) := KeepBut.set_ h i v
theorem Rf.at1 {q : Rc} {W : World} {a : Nat} {er pl : Int} (hq : q.ok) (h : Rf q W a er pl) (b : Nat) : Rf q (W.setCell ⟨q.g, 1, none⟩ (.int .i64 (b : Int))) b er pl := ⟨blk_put h.1 1 _ rfl, below_set h.2 hq.2.2.2.2.2.2⟩
theorem Rf.at4 {q : Rc} {W : World} {a : Nat} {er pl : Int} (hq : q.ok) (h : Rf q W a er pl) (b : Int) : Rf q (W.setCell ⟨q.g, 4, none⟩ (.int .i64 b)) a b pl := ⟨blk_put h.1 4 _ rfl, below_set h.2 hq.2.2.2.2.2.2⟩
theorem Rf.at5 {q : Rc} {W : World} {a : Nat} {er pl : Int} (hq : q.ok) (h : Rf q W a er pl) (b : Int) : Rf q (W.setCell ⟨q.g, 5, none⟩ (.int .i64 b)) a er b := ⟨blk_put h.1 5 _ rfl, below_set h.2 hq.2.2.2.2.2.2⟩
set_option maxHeartbeats 8000000 in
set_option maxRecDepth 100000 in
theorem fail_idle (q : Rc) (W : World) (a : Nat) (er pl e0 : Int) (he : er ≠ 0) (h : Rf q W a er pl) :
  Calls Tryz.prog 53 #[.pointer (some ⟨q.g, 0, none⟩), .int .i64 e0] W fun e w' => e = .returned (.tuple #[]) ∧ Rf q w' a er pl ∧ KeepG q.g W w' := by
 have HF := Aside0.mk h
 have d4 : W.cell? ⟨q.g, 4, none⟩ = some (.int .i64 er) := (blk_cell h.1 4).trans rfl
 have c0 : (er == 0) = false := beq_eq_false_iff_ne.2 he
 have c1 : (er != 0) = true := bne_iff_ne.2 he
 clear he h
 go_enter Tryz.func53, Tryz.ntmps53
 go_wp2
 refine bodyPost_ret (results_none rfl _ _ _) rfl ?_
 exact ⟨rfl, by with_reducible repeat (first | exact HF.out | refine Rf.drew ?_ | refine Rf.drewN ?_ _), by with_reducible repeat (first | exact KeepG.refl _ _ | refine KeepG.drew ?_ | refine KeepG.drewN ?_ _)⟩
set_option maxHeartbeats 8000000 in
set_option maxRecDepth 100000 in
theorem fail_now (q : Rc) (hq : q.ok) (W : World) (a : Nat) (pl e0 : Int) (h : Rf q W a 0 pl) :
  Calls Tryz.prog 53 #[.pointer (some ⟨q.g, 0, none⟩), .int .i64 e0] W fun e w' => e = .returned (.tuple #[]) ∧ Rf q w' a e0 ((q.rd a).place q.last) ∧ KeepG q.g W w' := by
 have h1 := (h.at4 hq e0).at5 hq q.last
 have H1 := Aside0.mk h1
 have HQ := Aside0.mk hq
 have HK : Aside0 (KeepG q.g W ((W.setCell ⟨q.g, 4, none⟩ (.int .i64 e0)).setCell ⟨q.g, 5, none⟩ (.int .i64 q.last))) := ⟨((KeepG.refl q.g W).set _).set _⟩
 have d4 : W.cell? ⟨q.g, 4, none⟩ = some (.int .i64 0) := (blk_cell h.1 4).trans rfl
 have d5 : W.cell? ⟨q.g, 5, none⟩ = some (.int .i64 pl) := (blk_cell h.1 5).trans rfl
 have z4 := blk_frozen h.1 4
 have z5 := blk_frozen h.1 5
 have d2 : W.cell? ⟨q.g, 2, none⟩ = some (.int .i64 q.last) := (blk_cell h.1 2).trans rfl
 have d0 : W.cell? ⟨q.g, 0, none⟩ = some (.slice q.A q.ws.length q.c) := (blk_cell h.1 0).trans rfl
 have d1 : W.cell? ⟨q.g, 1, none⟩ = some (.int .i64 (a : Int)) := (blk_cell h.1 1).trans rfl
 by_cases ha : a < q.ws.length
 ·obtain ⟨ad, ead, -, hx2, hlt⟩ := rd_cells hq h ha
  have hne : (ad.add (a * 3)).block ≠ q.g := by have := hq.2.2.2.2.2.2; omega
  have hne2 : q.g ≠ (ad.add (a * 3)).block := fun e => hne e.symm
  have c1 : decide (a < q.ws.length) = true := decide_eq_true ha
  have c2 : decide ((a : Int) < (q.ws.length : Int)) = true := decide_eq_true (by omega)
  have p1 := eq_true (show (0 : Int) ≤ (a : Int) by omega)
  have p2 := eq_true ha
  rw [ead] at d0
  clear ha ead h h1 hq hlt
  go_enter Tryz.func53, Tryz.ntmps53
  go_wp2
  go_region
  all_goals go_wp2
  all_goals go_region
  all_goals go_wp2
  all_goals go_end0
  all_goals exact ⟨rfl, by with_reducible repeat (first | exact H1.out | refine Rf.drew ?_ | refine Rf.drewN ?_ _ | refine Rf.at5 (pl := q.last) HQ.out ?_ _), by with_reducible repeat (first | exact HK.out | refine KeepG.drew ?_ | refine KeepG.drewN ?_ _ | refine KeepG.set ?_ _)⟩
 ·have e1 : (q.rd a).place q.last = q.last := (rd_none q a ha).2
  have c1 : decide (a < q.ws.length) = false := decide_eq_false ha
  have c2 : decide ((a : Int) < (q.ws.length : Int)) = false := decide_eq_false (by omega)
  rw [e1]
  clear ha h h1 e1 hq
  go_enter Tryz.func53, Tryz.ntmps53
  go_wp2
  go_region
  all_goals go_wp2
  all_goals go_end0
  all_goals exact ⟨rfl, by with_reducible repeat (first | exact H1.out | refine Rf.drew ?_ | refine Rf.drewN ?_ _), by with_reducible repeat (first | exact HK.out | refine KeepG.drew ?_ | refine KeepG.drewN ?_ _)⟩
/-- What want leaves: the place among the words, the error, its place. -/
def wantA (q : Rc) (a : Nat) (er : Int) (s : Bs) : Nat := if isB q a er s = true then a + 1 else a
def wantEr (q : Rc) (a : Nat) (er : Int) (s : Bs) : Int := if er = 0 then (if (q.rd a).next = s then 0 else 150) else er
def wantPl (q : Rc) (a : Nat) (er pl : Int) (s : Bs) : Int := if er = 0 then (if (q.rd a).next = s then pl else (q.rd a).place q.last) else pl
theorem is_lt {q : Rc} {a : Nat} {s : Bs} (hs : s ≠ []) (h : (q.rd a).next = s) : a < q.ws.length := by
 by_cases ha : a < q.ws.length
 ·exact ha
 ·rw [(rd_none q a ha).1] at h; exact absurd h.symm hs
theorem w64_succ {a : Nat} (h : a < 4611686018427387904) : wrap64 ((a : Int) + 1) = ((a + 1 : Nat) : Int) := by unfold wrap64; omega
set_option maxHeartbeats 8000000 in
set_option maxRecDepth 100000 in
theorem want2_calls (q : Rc) (hq : q.ok) (W : World) (a : Nat) (er pl : Int) (s : Bs) (hs : s ≠ []) (h : Rf q W a er pl) :
  Calls Tryz.prog 87 #[.pointer (some ⟨q.g, 0, none⟩), .string (bytesB s)] W fun e w' => e = .returned (.tuple #[]) ∧ Rf q w' (wantA q a er s) (wantEr q a er s) (wantPl q a er pl s) ∧ KeepG q.g W w' := by
 have HI := Aside0.mk (is_calls q hq W a er pl s hs h)
 have HF := Aside0.mk h
 have HQ := Aside0.mk hq
 have d1 : W.cell? ⟨q.g, 1, none⟩ = some (.int .i64 (a : Int)) := (blk_cell h.1 1).trans rfl
 have z1 := blk_frozen h.1 1
 unfold wantA wantEr wantPl
 by_cases he : er = 0
 ·subst he
  by_cases hn : (q.rd a).next = s
  ·have ha := is_lt hs hn
   have e1 : isB q a 0 s = true := by unfold isB; rw [decide_eq_true hn]; rfl
   have hw : IntKind.i64.wrap ((a : Int) + 1) = ((a + 1 : Nat) : Int) := by rw [i64_w]; exact w64_succ (by have := hq.2.2.1; omega)
   have H1 := Aside0.mk (h.at1 hq (a + 1))
   rw [e1] at HI
   rw [if_pos e1, if_pos rfl, if_pos hn, if_pos rfl, if_pos hn]
   clear hq h ha hn e1
   go_enter Tryz.func87, Tryz.ntmps87
   go_wp2_with (go_at_call 67; refine HI.out.mono ?_; rintro e w' ⟨rfl, ⟨nd, rfl⟩⟩)
   refine bodyPost_ret (results_none rfl _ _ _) rfl ?_
   exact ⟨rfl, (HF.out.drewN nd).at1 HQ.out (a + 1), ((KeepG.refl _ _).drewN nd).set _⟩
  ·have e1 : isB q a 0 s = false := by unfold isB; rw [decide_eq_false hn]; rfl
   have HN := Aside0.mk (fun nd => fail_now q hq (W.drewN nd) a pl 150 (h.drewN nd))
   rw [e1] at HI
   rw [if_neg (by rw [e1]; decide), if_pos rfl, if_neg hn, if_pos rfl, if_neg hn]
   clear hq h hn e1
   go_enter Tryz.func87, Tryz.ntmps87
   go_wp2_with (first | (go_at_call 67; refine HI.out.mono ?_; rintro e w' ⟨rfl, ⟨nd, rfl⟩⟩) | (go_at_call 53; refine (HN.out _).mono ?_; rintro e w' ⟨rfl, hr, hk⟩))
   go_end0
   exact ⟨rfl, hr, ((KeepG.refl _ _).drewN _).trans hk⟩
 ·have e1 : isB q a er s = false := by unfold isB; rw [decide_eq_false he]; rfl
  have HN := Aside0.mk (fun nd => fail_idle q (W.drewN nd) a er pl 150 he (h.drewN nd))
  rw [e1] at HI
  rw [if_neg (by rw [e1]; decide), if_neg he, if_neg he]
  clear hq h he e1
  go_enter Tryz.func87, Tryz.ntmps87
  go_wp2_with (first | (go_at_call 67; refine HI.out.mono ?_; rintro e w' ⟨rfl, ⟨nd, rfl⟩⟩) | (go_at_call 53; refine (HN.out _).mono ?_; rintro e w' ⟨rfl, hr, hk⟩))
  go_end0
  exact ⟨rfl, hr, ((KeepG.refl _ _).drewN _).trans hk⟩
/-- Tokens that a method has made since W, beside the reader. -/
def Hold (q : Rc) (W w' : World) (v : Value) (l : List Tk) (a : Nat) (er pl : Int) : Prop := Kd.R k41 41 w' W.heap.size (fun k => k ≠ q.g) v l ∧ Rf q w' a er pl ∧ KeepG q.g W w'
theorem Hold.low {q : Rc} {W W1 w' : World} {v : Value} {l : List Tk} {a : Nat} {er pl : Int} (h : Hold q W1 w' v l a er pl) (hk : KeepG q.g W W1) : Hold q W w' v l a er pl := ⟨Kd.R_lower h.1 hk.1, h.2.1, hk.trans h.2.2⟩
theorem Hold.drewN {q : Rc} {W w' : World} {v : Value} {l : List Tk} {a : Nat} {er pl : Int} (h : Hold q W w' v l a er pl) (m : Nat) : Hold q W (w'.drewN m) v l a er pl := ⟨Kd.R_drewN h.1 m, h.2.1.drewN m, h.2.2.drewN m⟩
theorem Hold.alloc {q : Rc} {W w' : World} {v : Value} {l : List Tk} {a : Nat} {er pl : Int} (h : Hold q W w' v l a er pl) (o : Obj) : Hold q W (w'.alloc o) v l a er pl := ⟨Kd.R_alloc h.1 o, ⟨blk_alloc h.2.1.1 o, below_alloc h.2.1.2 o⟩, h.2.2.alloc o⟩
theorem Hold.lt {q : Rc} {W w' : World} {v : Value} {l : List Tk} {a : Nat} {er pl : Int} (h : Hold q W w' v l a er pl) : some w'.heap.size ≠ v.ownBlock := by
 obtain ⟨⟨_, inner, ho, _⟩, _⟩ := h
 exact fun e => absurd (own_lt ho _ e.symm) (Nat.lt_irrefl _)
theorem Hold.nil {q : Rc} {W w' : World} {a : Nat} {er pl : Int} (h : Rf q w' a er pl) (hk : KeepG q.g W w') : Hold q W w' (.slice none 0 0) [] a er pl := ⟨Kd.R_nil _ _ _ _ _, h, hk⟩
theorem Rf.keep {q : Rc} {W w' : World} {a : Nat} {er pl : Int} (hq : q.ok) (h : Rf q W a er pl) (hk : Below W.heap.size W w') : Rf q w' a er pl := ⟨blk_below h.1 hk, below_step h.2 hk⟩
theorem rf_size {q : Rc} {W : World} {a : Nat} {er pl : Int} (h : Rf q W a er pl) : q.g < W.heap.size := blk_lt h.1
/-- The tokens grow: an append. -/
theorem Hold.grow {q : Rc} {W w' w2 : World} {v v2 : Value} {l l2 : List Tk} {a : Nat} {er pl : Int} (hq : q.ok) (hW : q.g < W.heap.size) (h : Hold q W w' v l a er pl) (hr : Kd.R k41 41 w2 W.heap.size (fun k => k ≠ q.g) v2 l2) (hg : w'.grownBy w2 v.ownBlock) : Hold q W w2 v2 l2 a er pl := by
 obtain ⟨hR, hF, hK⟩ := h
 obtain ⟨h0, inner, ho, _⟩ := hR
 have hb : ∀ k, v.ownBlock = some k → W.heap.size ≤ k := fun k hk => own_base ho k hk
 refine ⟨hr, ⟨blk_grown hF.1 hg (fun e => h0 q.g e.symm rfl), pw_below_grown hF.2 v.ownBlock hF.2.size hg (fun k hk => ?_)⟩, KeepBut.trans hK (KeepBut.of_grown hg q.g) ?_⟩
 ·have := hb k hk
  have h6 := hq.2.2.2.2.2.2
  omega
 ·cases e : v.ownBlock with
  | none => exact .inl rfl
  | some b => exact .inr ⟨b, rfl, hb b e⟩
theorem Hold.at1 {q : Rc} {W w' : World} {v : Value} {l : List Tk} {a : Nat} {er pl : Int} (hq : q.ok) (h : Hold q W w' v l a er pl) (b : Nat) : Hold q W (w'.setCell ⟨q.g, 1, none⟩ (.int .i64 (b : Int))) v l b er pl := ⟨Kd.R_far h.1 (fun _ hk => hk) _, h.2.1.at1 hq b, h.2.2.set _⟩
theorem blk_new_at {W : World} {o : Obj} {g : Nat} (h : g = W.heap.size) : (W.alloc o).heap[g]? = some o := h ▸ blk_new W o
/-- The levels: how many operators, their words and tokens, whether they are read from the right. -/
def lvW : Nat → List Bs
 | 0 => [[60, 45, 62]] | 1 => [[45, 62]] | 2 => [[124]] | 3 => [[38]] | _ => [[85], [82]]
def lvO : Nat → List Int
 | 0 => [14] | 1 => [13] | 2 => [12] | 3 => [11] | _ => [15, 16]
def lvR : Nat → Bool
 | 0 => false | 1 => true | 2 => false | 3 => false | _ => true
/-- The table in memory at block B. -/
def LevAt (L : Nat) (W : World) (B : Nat) : Prop := L ≤ B ∧ ∀ k, k < 5 → ∃ gw go_, W.cell? ⟨B, 3 * k, none⟩ = some (.slice (some ⟨gw, 0, none⟩) (lvW k).length (lvW k).length) ∧ W.cell? ⟨B, 3 * k + 1, none⟩ = some (.slice (some ⟨go_, 0, none⟩) (lvW k).length (lvW k).length) ∧ W.cell? ⟨B, 3 * k + 2, none⟩ = some (.bool (lvR k))
 ∧ (∀ i (h : i < (lvW k).length), W.cell? ⟨gw, i, none⟩ = some (.string (bytesB (lvW k)[i]))) ∧ (∀ i (h : i < (lvO k).length), W.cell? ⟨go_, i, none⟩ = some (.int .u8 (lvO k)[i])) ∧ L ≤ gw ∧ L ≤ go_
set_option maxHeartbeats 8000000 in
set_option maxRecDepth 100000 in
theorem levels_calls (W : World) : Calls Tryz.prog 68 #[] W fun e w' => ∃ B, e = .returned (.slice (some ⟨B, 0, none⟩) 5 5) ∧ Below W.heap.size W w' ∧ LevAt W.heap.size w' B := by
 go_enter Tryz.func68, Tryz.ntmps68
 go_wp2
 go_ret
 obtain ⟨w', hw⟩ : ∃ w', w' = (((((((((((W.alloc (.cells #[.string ⟨#[60, 45, 62]⟩] 9)).alloc (.cells #[.int .u8 14] 39)).alloc (.cells #[.string ⟨#[45, 62]⟩] 9)).alloc (.cells #[.int .u8 13] 39)).alloc (.cells #[.string ⟨#[124]⟩] 9)).alloc (.cells #[.int .u8 12] 39)).alloc (.cells #[.string ⟨#[38]⟩] 9)).alloc (.cells #[.int .u8 11] 39)).alloc (.cells #[.string ⟨#[85]⟩, .string ⟨#[82]⟩] 9)).alloc (.cells #[.int .u8 15, .int .u8 16] 39)).alloc (.cells #[.slice (some ⟨W.heap.size, 0, none⟩) 1 1, .slice (some ⟨W.heap.size + 1, 0, none⟩) 1 1, .bool false, .slice (some ⟨W.heap.size + 1 + 1, 0, none⟩) 1 1, .slice (some ⟨W.heap.size + 1 + 1 + 1, 0, none⟩) 1 1, .bool true, .slice (some ⟨W.heap.size + 1 + 1 + 1 + 1, 0, none⟩) 1 1, .slice (some ⟨W.heap.size + 1 + 1 + 1 + 1 + 1, 0, none⟩) 1 1, .bool false, .slice (some ⟨W.heap.size + 1 + 1 + 1 + 1 + 1 + 1, 0, none⟩) 1 1, .slice (some ⟨W.heap.size + 1 + 1 + 1 + 1 + 1 + 1 + 1, 0, none⟩) 1 1, .bool false, .slice (some ⟨W.heap.size + 1 + 1 + 1 + 1 + 1 + 1 + 1 + 1, 0, none⟩) 2 2, .slice (some ⟨W.heap.size + 1 + 1 + 1 + 1 + 1 + 1 + 1 + 1 + 1, 0, none⟩) 2 2, .bool true] 123)) := ⟨_, rfl⟩
 have b0 : w'.heap[W.heap.size]? = some (.cells #[.string ⟨#[60, 45, 62]⟩] 9 (0, 0)) := by rw [hw]; repeat (first | (exact blk_new_at (by simp; done)) | refine blk_alloc ?_ _)
 have b1 : w'.heap[W.heap.size + 1]? = some (.cells #[.int .u8 14] 39 (0, 0)) := by rw [hw]; repeat (first | (exact blk_new_at (by simp; done)) | refine blk_alloc ?_ _)
 have b2 : w'.heap[W.heap.size + 1 + 1]? = some (.cells #[.string ⟨#[45, 62]⟩] 9 (0, 0)) := by rw [hw]; repeat (first | (exact blk_new_at (by simp; done)) | refine blk_alloc ?_ _)
 have b3 : w'.heap[W.heap.size + 1 + 1 + 1]? = some (.cells #[.int .u8 13] 39 (0, 0)) := by rw [hw]; repeat (first | (exact blk_new_at (by simp; done)) | refine blk_alloc ?_ _)
 have b4 : w'.heap[W.heap.size + 1 + 1 + 1 + 1]? = some (.cells #[.string ⟨#[124]⟩] 9 (0, 0)) := by rw [hw]; repeat (first | (exact blk_new_at (by simp; done)) | refine blk_alloc ?_ _)
 have b5 : w'.heap[W.heap.size + 1 + 1 + 1 + 1 + 1]? = some (.cells #[.int .u8 12] 39 (0, 0)) := by rw [hw]; repeat (first | (exact blk_new_at (by simp; done)) | refine blk_alloc ?_ _)
 have b6 : w'.heap[W.heap.size + 1 + 1 + 1 + 1 + 1 + 1]? = some (.cells #[.string ⟨#[38]⟩] 9 (0, 0)) := by rw [hw]; repeat (first | (exact blk_new_at (by simp; done)) | refine blk_alloc ?_ _)
 have b7 : w'.heap[W.heap.size + 1 + 1 + 1 + 1 + 1 + 1 + 1]? = some (.cells #[.int .u8 11] 39 (0, 0)) := by rw [hw]; repeat (first | (exact blk_new_at (by simp; done)) | refine blk_alloc ?_ _)
 have b8 : w'.heap[W.heap.size + 1 + 1 + 1 + 1 + 1 + 1 + 1 + 1]? = some (.cells #[.string ⟨#[85]⟩, .string ⟨#[82]⟩] 9 (0, 0)) := by rw [hw]; repeat (first | (exact blk_new_at (by simp; done)) | refine blk_alloc ?_ _)
 have b9 : w'.heap[W.heap.size + 1 + 1 + 1 + 1 + 1 + 1 + 1 + 1 + 1]? = some (.cells #[.int .u8 15, .int .u8 16] 39 (0, 0)) := by rw [hw]; repeat (first | (exact blk_new_at (by simp; done)) | refine blk_alloc ?_ _)
 have b10 : w'.heap[W.heap.size + 1 + 1 + 1 + 1 + 1 + 1 + 1 + 1 + 1 + 1]? = some (.cells #[.slice (some ⟨W.heap.size, 0, none⟩) 1 1, .slice (some ⟨W.heap.size + 1, 0, none⟩) 1 1, .bool false, .slice (some ⟨W.heap.size + 1 + 1, 0, none⟩) 1 1, .slice (some ⟨W.heap.size + 1 + 1 + 1, 0, none⟩) 1 1, .bool true, .slice (some ⟨W.heap.size + 1 + 1 + 1 + 1, 0, none⟩) 1 1, .slice (some ⟨W.heap.size + 1 + 1 + 1 + 1 + 1, 0, none⟩) 1 1, .bool false, .slice (some ⟨W.heap.size + 1 + 1 + 1 + 1 + 1 + 1, 0, none⟩) 1 1, .slice (some ⟨W.heap.size + 1 + 1 + 1 + 1 + 1 + 1 + 1, 0, none⟩) 1 1, .bool false, .slice (some ⟨W.heap.size + 1 + 1 + 1 + 1 + 1 + 1 + 1 + 1, 0, none⟩) 2 2, .slice (some ⟨W.heap.size + 1 + 1 + 1 + 1 + 1 + 1 + 1 + 1 + 1, 0, none⟩) 2 2, .bool true] 123 (0, 0)) := by rw [hw]; repeat (first | (exact blk_new_at (by simp; done)) | refine blk_alloc ?_ _)
 have hB : Below W.heap.size W w' := by rw [hw]; repeat (first | exact Below.refl _ _ | refine below_alloc ?_ _)
 rw [← hw]
 clear hw
 refine ⟨W.heap.size + 1 + 1 + 1 + 1 + 1 + 1 + 1 + 1 + 1 + 1, rfl, hB, by omega, ?_⟩
 intro k hk
 match k, hk with
 | 0, _ => exact ⟨_, _, (blk_cell b10 0).trans rfl, (blk_cell b10 1).trans rfl, (blk_cell b10 2).trans rfl, fun i h => (by obtain rfl : i = 0 := (by have h2 : i < 1 := h; omega); exact (blk_cell b0 0).trans rfl), fun i h => (by obtain rfl : i = 0 := (by have h2 : i < 1 := h; omega); exact (blk_cell b1 0).trans rfl), by omega, by omega⟩
 | 1, _ => exact ⟨_, _, (blk_cell b10 3).trans rfl, (blk_cell b10 4).trans rfl, (blk_cell b10 5).trans rfl, fun i h => (by obtain rfl : i = 0 := (by have h2 : i < 1 := h; omega); exact (blk_cell b2 0).trans rfl), fun i h => (by obtain rfl : i = 0 := (by have h2 : i < 1 := h; omega); exact (blk_cell b3 0).trans rfl), by omega, by omega⟩
 | 2, _ => exact ⟨_, _, (blk_cell b10 6).trans rfl, (blk_cell b10 7).trans rfl, (blk_cell b10 8).trans rfl, fun i h => (by obtain rfl : i = 0 := (by have h2 : i < 1 := h; omega); exact (blk_cell b4 0).trans rfl), fun i h => (by obtain rfl : i = 0 := (by have h2 : i < 1 := h; omega); exact (blk_cell b5 0).trans rfl), by omega, by omega⟩
 | 3, _ => exact ⟨_, _, (blk_cell b10 9).trans rfl, (blk_cell b10 10).trans rfl, (blk_cell b10 11).trans rfl, fun i h => (by obtain rfl : i = 0 := (by have h2 : i < 1 := h; omega); exact (blk_cell b6 0).trans rfl), fun i h => (by obtain rfl : i = 0 := (by have h2 : i < 1 := h; omega); exact (blk_cell b7 0).trans rfl), by omega, by omega⟩
 | 4, _ => exact ⟨_, _, (blk_cell b10 12).trans rfl, (blk_cell b10 13).trans rfl, (blk_cell b10 14).trans rfl, fun i h => (match i, h with | 0, _ => (blk_cell b8 0).trans rfl | 1, _ => (blk_cell b8 1).trans rfl), fun i h => (match i, h with | 0, _ => (blk_cell b9 0).trans rfl | 1, _ => (blk_cell b9 1).trans rfl), by omega, by omega⟩
theorem LevAt.keep {g L B : Nat} {W W' : World} (hg : g < L) (h : LevAt L W B) (hk : KeepG g W W') : LevAt L W' B := by
 refine ⟨h.1, fun k hk5 => ?_⟩
 obtain ⟨gw, go_, h1, h2, h3, h4, h5, h6, h7⟩ := h.2 k hk5
 have hB := h.1
 exact ⟨gw, go_, keep_cell hk h1 (by show B ≠ g; omega), keep_cell hk h2 (by show B ≠ g; omega), keep_cell hk h3 (by show B ≠ g; omega), fun i hi => keep_cell hk (h4 i hi) (by show gw ≠ g; omega), fun i hi => keep_cell hk (h5 i hi) (by show go_ ≠ g; omega), h6, h7⟩
section
variable {ops : Array Oper} {o : Oper} {act : Act} {Q : Exit → Act → World → Prop} {rest : List Oper}
/-- A token is appended. -/
theorem hold_append (q : Rc) (hq : q.ok) {W w' : World} (hW : q.g < W.heap.size) {v : Value} {l : List Tk} {aa : Nat} {er pl : Int} (p : Tk) (hgd : o.guard = none) (s x : Operand) (ho : o.op = .call { callee := .builtin .append, args := #[s, x], argTypes := #[23, 23] }) (hs : act.eval s = v) {g0 : Nat} (hx : act.eval x = .slice (some ⟨g0, 0, none⟩) 1 1)
  (H : Hold q W w' v l aa er pl) (hl : l.length ≤ 1000000000000) (k : ∀ v1 w1, Hold q W w1 v1 (l ++ [p]) aa er pl → w'.grownBy w1 v.ownBlock → wpList Tryz.prog ops Q rest (act.put o.dst v1) w1) (hg0 : g0 = w'.heap.size := by first | rfl | simp) : wpList Tryz.prog ops Q (o :: rest) act (w'.alloc (.cells #[.int .u8 p.f0, .int .u8 p.f1] 41)) := by
 subst hg0
 refine Kd.R_append k41 (w0 := w') W.heap.size hgd s x 23 41 (.agg #[(.int .u8 0), (.int .u8 0)]) 2 ho Tryz.underlying23 info41 rfl (by decide) (by omega) v l p [.int .u8 p.f0, .int .u8 p.f1] (fun k => k ≠ q.g) (fun _ => False) hs hx (k41_mkM _ _ _ p) (fun _ hk => hk.elim) ?_ H.1 (Below.refl _ _) H.2.2.1 (by omega) ?_
 ·intro k hk e
  have := rf_size H.2.1
  omega
 ·intro v1 w1 hr hb hg hat
  exact k v1 w1 (H.grow hq hW hr hg) hg
/-- Tokens that a call has made are appended. -/
theorem hold_rows (q : Rc) (hq : q.ok) {W w' : World} (hW : q.g < W.heap.size) {v : Value} {l ys : List Tk} {aa : Nat} {er pl : Int} {A : Option Addr} {m c : Nat} (hgd : o.guard = none) (s x : Operand) (ho : o.op = .call { callee := .builtin .append, args := #[s, x], argTypes := #[23, 23] }) (hs : act.eval s = v) (hx : act.eval x = .slice A m c)
  (H : Hold q W w' v l aa er pl) (hy : Kd.C k41 w' A m ys) (hl : l.length + m ≤ 1000000000000) (k : ∀ v1 w1, Hold q W w1 v1 (l ++ ys) aa er pl → w'.grownBy w1 v.ownBlock → wpList Tryz.prog ops Q rest (act.put o.dst v1) w1) : wpList Tryz.prog ops Q (o :: rest) act w' := by
 refine Kd.R_append_rows k41 (w0 := w') W.heap.size hgd s x 23 41 (.agg #[(.int .u8 0), (.int .u8 0)]) 2 ho Tryz.underlying23 info41 rfl (by decide) (by omega) v l ys A m c (fun k => k ≠ q.g) (fun _ => False) hs hx H.1 hy (fun x cs h => by obtain rfl := k41_open h; exact k41_mkM _ _ _ x) (fun _ hk => hk.elim) ?_ (Below.refl _ _) H.2.2.1 (by omega) ?_
 ·intro k hk e
  have := rf_size H.2.1
  omega
 ·intro v1 w1 hr hb hg hat
  exact k v1 w1 (H.grow hq hW hr hg) hg
end
/-- The token of the word among these. -/
def opL : List Bs → List Int → Bs → Option Int
 | w :: ws, o :: os, s => if s = w then some o else opL ws os s
 | _, _, _ => none
def OpPost (q : Rc) (W : World) (a : Nat) (pl : Int) : Option Int → Ending → World → Prop
 | some o, e, w' => e = .returned (.tuple #[.agg #[.int .u8 o, .int .u8 0], .bool true]) ∧ Rf q w' (a + 1) 0 pl ∧ KeepG q.g W w'
 | none, e, w' => e = .returned (.tuple #[.agg #[.int .u8 0, .int .u8 0], .bool false]) ∧ Rf q w' a 0 pl ∧ KeepG q.g W w'
theorem opL_at (ws : List Bs) (os : List Int) (s : Bs) (i : Nat) (h1 : i < ws.length) (h2 : i < os.length) : opL (ws.drop i) (os.drop i) s = if s = ws[i] then some os[i] else opL (ws.drop (i + 1)) (os.drop (i + 1)) s := by
 rw [List.drop_eq_getElem_cons h1, List.drop_eq_getElem_cons h2, opL]
set_option maxHeartbeats 8000000 in
set_option maxRecDepth 100000 in
theorem op_calls (q : Rc) (hq : q.ok) (W : World) (a : Nat) (pl : Int) (ws : List Bs) (os : List Int) (gw go_ : Nat) (r : Bool) (x : Option Int) (hx : opL ws os (q.rd a).next = x) (h : Rf q W a 0 pl)
  (hws : ∀ i (h : i < ws.length), W.cell? ⟨gw, i, none⟩ = some (.string (bytesB ws[i]))) (hos : ∀ i (h : i < os.length), W.cell? ⟨go_, i, none⟩ = some (.int .u8 os[i])) (hl : os.length = ws.length) (hn : ws.length ≤ 1000) (hne : ∀ w ∈ ws, w ≠ []) (hgo : go_ ≠ q.g) :
  Calls Tryz.prog 70 #[.pointer (some ⟨q.g, 0, none⟩), .agg #[.slice (some ⟨gw, 0, none⟩) ws.length ws.length, .slice (some ⟨go_, 0, none⟩) ws.length ws.length, .bool r]] W (OpPost q W a pl x) := by
 obtain ⟨W2, hW2⟩ : ∃ W2, W2 = (W.alloc (.cells #[.slice (some ⟨gw, 0, none⟩) ws.length ws.length, .slice (some ⟨go_, 0, none⟩) ws.length ws.length, .bool r] 123)).alloc (.cells #[.int .u8 0, .int .u8 0] 41) := ⟨_, rfl⟩
 have hB2 : Below W.heap.size W W2 := by rw [hW2]; exact below_alloc (below_alloc (Below.refl _ _) _) _
 have BK3 : W2.heap[W.heap.size]? = some (.cells #[.slice (some ⟨gw, 0, none⟩) ws.length ws.length, .slice (some ⟨go_, 0, none⟩) ws.length ws.length, .bool r] 123 (0, 0)) := by rw [hW2]; exact blk_alloc (blk_new _ _) _
 have BK4 : W2.heap[W.heap.size + 1]? = some (.cells #[.int .u8 0, .int .u8 0] 41 (0, 0)) := by rw [hW2]; exact blk_new_at (by simp)
 have HQ := Aside0.mk hq
 have HF := Aside0.mk (h.keep hq hB2)
 have HK : Aside0 (KeepG q.g W W2) := ⟨KeepBut.of_below hB2 _ _⟩
 have HWS := Aside0.mk (fun i (hi : i < ws.length) => (hB2.cell (World.block_lt_of_cell? W _ (hws i hi))).trans (hws i hi))
 have HOS := Aside0.mk (fun i (hi : i < os.length) => (hB2.cell (World.block_lt_of_cell? W _ (hos i hi))).trans (hos i hi))
 have HL := Aside0.mk (show os.length = ws.length ∧ ws.length ≤ 1000 ∧ (∀ w ∈ ws, w ≠ []) ∧ go_ ≠ q.g ∧ q.g < W.heap.size from ⟨hl, hn, hne, hgo, blk_lt h.1⟩)
 have HX := Aside0.mk hx
 have d30 : W2.cell? ⟨W.heap.size, 0, none⟩ = some (.slice (some ⟨gw, 0, none⟩) ws.length ws.length) := (blk_cell BK3 0).trans rfl
 have d31 : W2.cell? ⟨W.heap.size, 1, none⟩ = some (.slice (some ⟨go_, 0, none⟩) ws.length ws.length) := (blk_cell BK3 1).trans rfl
 have z40 : W2.cell? ⟨W.heap.size + 1, 0, none⟩ = some (.int .u8 0) := (blk_cell BK4 0).trans rfl
 have z41 : W2.cell? ⟨W.heap.size + 1, 1, none⟩ = some (.int .u8 0) := (blk_cell BK4 1).trans rfl
 have zf0 := blk_frozen BK4 0
 have zf1 := blk_frozen BK4 1
 have HBK := Aside0.mk (show _ ∧ _ from ⟨BK3, BK4⟩)
 clear hq h hws hos hl hn hne hgo hx hB2 BK3 BK4
 go_enter Tryz.func70, Tryz.ntmps70
 go_wp2
 rw [← hW2]
 clear hW2
 go_loopg [6] ws.length (fun kq v6 w' => ∃ i nd : Nat, v6 = .int .i64 (i : Int) ∧ Aside0 (i + kq = ws.length) ∧ Aside0 (opL (ws.drop i) (os.drop i) (q.rd a).next = x) ∧ w' = W2.drewN nd)
 case atStart => exact ⟨0, 0, rfl, ⟨by omega⟩, ⟨HX.out⟩, rfl⟩
 case round =>
  obtain ⟨i, nd, rfl, hi, hx, rfl⟩ := hrel
  clear HX
  cases gk with
  | zero =>
   have hil := hi.out
   rw [Nat.add_zero] at hil
   obtain rfl : x = none := by rw [← hx.out, List.drop_of_length_le (by omega), opL]; exact fun _ _ _ _ h _ => by cases h
   have c1 : decide ((i : Int) < (ws.length : Int)) = false := decide_eq_false (by omega)
   have c2 : decide (i < ws.length) = false := decide_eq_false (by omega)
   clear hil hx hi
   have hb := blk_put (blk_put (blk_drewN HBK.out.2 nd) 0 (.int .u8 0) rfl) 1 (.int .u8 0) rfl
   have hF := HF.out.drewN nd
   have hne : q.g ≠ W.heap.size + 1 := by have := HL.out.2.2.2.2; omega
   have HR : Aside0 (Rf q (((W2.drewN nd).setCell ⟨W.heap.size + 1, 0, none⟩ (.int .u8 0)).setCell ⟨W.heap.size + 1, 1, none⟩ (.int .u8 0)) a 0 pl) := ⟨blk_far (blk_far hF.1 hne _) hne _, below_set (below_set hF.2 (by have := HQ.out.2.2.2.2.2.2; have := HL.out.2.2.2.2; omega)) (by have := HQ.out.2.2.2.2.2.2; have := HL.out.2.2.2.2; omega)⟩
   have HK2 : Aside0 (KeepG q.g W (((W2.drewN nd).setCell ⟨W.heap.size + 1, 0, none⟩ (.int .u8 0)).setCell ⟨W.heap.size + 1, 1, none⟩ (.int .u8 0))) := ⟨keep_far (keep_far (HK.out.drewN nd) (by show W.heap.size ≤ W.heap.size + 1; omega) _) (by show W.heap.size ≤ W.heap.size + 1; omega) _⟩
   have HBB := Aside0.mk hb
   clear hb hF hne
   go_wp2
   refine bodyPost_ret (results_list (rs := [.cell 4 41, .tmp 5]) rfl (by simp) (.cell (W.heap.size + 1) 41 #[.int .u8 0, .int .u8 0] (0, 0) _ rfl HBB.out Tryz.underlying41 rfl (by kernel_rfl) (.tmp .nil))) rfl ?_
   exact ⟨rfl, HR.out, HK2.out⟩
  | succ k1 =>
   have hil : i < ws.length := by have := hi.out; omega
   have hio : i < os.length := by have := hi.out; have := HL.out.1; omega
   have hxx := hx.out
   rw [opL_at ws os _ i hil hio] at hxx
   have hwne := HL.out.2.2.1 ws[i] (List.getElem_mem hil)
   have HI := Aside0.mk (fun m => is_calls q HQ.out (W2.drewN m) a 0 pl ws[i] hwne (HF.out.drewN m))
   have e0 := HWS.out i hil
   have o0 := HOS.out i hio
   have c1 : decide ((i : Int) < (ws.length : Int)) = true := decide_eq_true (by omega)
   have c2 : decide (i < ws.length) = true := decide_eq_true hil
   have p1 := eq_true (show (0 : Int) ≤ (i : Int) by omega)
   have p2 := eq_true hil
   have hw : Aside0 (wrap64 ((i : Int) + 1) = ((i + 1 : Nat) : Int)) := ⟨by have := HL.out.2.1; unfold wrap64; omega⟩
   have hi1 : Aside0 (i + 1 + k1 = ws.length) := ⟨by have := hi.out; omega⟩
   obtain ⟨s, hs⟩ : ∃ s, s = ws[i] := ⟨_, rfl⟩
   obtain ⟨o, ho⟩ : ∃ o, o = os[i] := ⟨_, rfl⟩
   rw [← hs] at HI e0 hxx
   rw [← ho] at o0 hxx
   have HWN : Aside0 (s ≠ []) := ⟨by rw [hs]; exact hwne⟩
   clear hx hi hwne hs ho hio hil
   by_cases hn : (q.rd a).next = s
   ·rw [if_pos hn] at hxx
    have e1 : isB q a 0 s = true := by unfold isB; rw [decide_eq_true hn]; rfl
    rw [e1] at HI
    subst hxx
    have hwa : Aside0 (wrap64 ((a : Int) + 1) = ((a + 1 : Nat) : Int)) := ⟨w64_succ (by have := is_lt HWN.out hn; have := HQ.out.2.2.1; omega)⟩
    clear hn e1
    have d1 : W2.cell? ⟨q.g, 1, none⟩ = some (.int .i64 (a : Int)) := (blk_cell HF.out.1 1).trans rfl
    have f1 := blk_frozen HF.out.1 1
    have n1 : W.heap.size ≠ q.g := by have := HL.out.2.2.2.2; omega
    have n2 : q.g ≠ W.heap.size := fun e => n1 e.symm
    have n3 : W.heap.size + 1 ≠ q.g := by have := HL.out.2.2.2.2; omega
    have n4 : q.g ≠ W.heap.size + 1 := fun e => n3 e.symm
    have n5 := HL.out.2.2.2.1
    have n6 : q.g ≠ go_ := fun e => n5 e.symm
    go_wp2_with (go_at_call 67; refine (HI.out _).mono ?_; rintro e w' ⟨rfl, ⟨nd2, rfl⟩⟩)
    rw [hwa.out]
    have hF := (HF.out.drewN (nd + nd2)).at1 HQ.out (a + 1)
    have hb := blk_put (blk_put (blk_far (p := ⟨q.g, 1, none⟩) (blk_drewN HBK.out.2 (nd + nd2)) n3 (.int .i64 ((a + 1 : Nat) : Int))) 0 (.int .u8 o) rfl) 1 (.int .u8 0) rfl
    have hs0 : q.w0.heap.size ≤ W.heap.size + 1 := by have := HQ.out.2.2.2.2.2.2; have := HL.out.2.2.2.2; omega
    refine bodyPost_ret (results_list (rs := [.cell 4 41, .tmp 5]) rfl (by simp) (.cell (W.heap.size + 1) 41 #[.int .u8 o, .int .u8 0] (0, 0) _ rfl hb Tryz.underlying41 rfl (by kernel_rfl) (.tmp .nil))) rfl ?_
    exact ⟨rfl, ⟨blk_far (blk_far hF.1 n4 _) n4 _, below_set (below_set hF.2 hs0) hs0⟩, keep_far (keep_far ((HK.out.drewN _).set _) (by show W.heap.size ≤ W.heap.size + 1; omega) _) (by show W.heap.size ≤ W.heap.size + 1; omega) _⟩
   ·rw [if_neg hn] at hxx
    have e1 : isB q a 0 s = false := by unfold isB; rw [decide_eq_false hn]; rfl
    rw [e1] at HI
    have HX := Aside0.mk hxx
    clear hn e1 hxx
    go_wp2_with (go_at_call 67; refine (HI.out _).mono ?_; rintro e w' ⟨rfl, ⟨nd2, rfl⟩⟩)
    go_roundg k1
    case measure => exact Nat.lt_succ_self _
    case rel => exact ⟨i + 1, _, by first | rfl | (show Value.int .i64 (wrap64 _) = _; rw [hw.out]), hi1, HX, rfl⟩
end Go.Proofs.YtaogoabnidbbpaaGreatDoor.PText
namespace Go.Proofs.YtaogoabnidbbpaaGreatDoor.PText
open Go.RowKit Go.Proofs.YtaogoabnidbbpaaGreatDoorW.PrintWords Go.Proofs.YtaogoabnidbbpaaGreatDoorW.PrintLast Go.Proofs.YtaogoabnidbbpaaGreatDoorW.PrintMore
set_option linter.unusedVariables false
set_option linter.unusedSimpArgs false
def ntK : Nat → Nt
 | 0 => .iff | 1 => .imp | 2 => .or | 3 => .and | 4 => .til | _ => .unary
def nxK (k : Nat) : Nat := if lvR k = true then k else k + 1
def opK (k : Nat) (s : Bs) : Option Int := opL (lvW k) (lvO k) s
/-- The rounds of a level: what comes of them. -/
inductive More2 (q : Rc) (n k : Nat) : Nat → Rd → End → Prop
 | stop {m : Nat} {r : Rd} : opK k r.next = none → More2 q n k m r (.go r)
 | fail {m m' : Nat} {r : Rd} {o er p : Int} : opK k r.next = some o → m' ≤ n → run q.names q.last m' (ntK (nxK k)) r.pop = some (.stop er p) → More2 q n k (m + 1) r (.stop er p)
 | next {m m' : Nat} {r r1 : Rd} {o : Int} {e : End} : opK k r.next = some o → m' ≤ n → run q.names q.last m' (ntK (nxK k)) r.pop = some (.go r1) → More2 q n k m (r1.put o) e → More2 q n k (m + 1) r e
theorem put_next (r : Rd) (o : Int) : (r.put o).next = r.next := rfl
theorem imp_end (names : List ByteArray) (last : Int) (n : Nat) : ∀ r r', run names last n .imp r = some (.go r') → r'.next ≠ [45, 62] := by
 induction n with
 | zero => intro r r' h; rw [run] at h; cases h
 | succ n ih =>
  intro r r' h
  rw [run] at h
  obtain ⟨r1, h1, h2⟩ := then_go h
  split at h2
  ·obtain ⟨r2, h3, h4⟩ := then_go h2
   have := ih _ _ h3
   cases h4
   rw [put_next]; exact this
  ·rename_i hn
   cases h2
   exact hn
theorem til_end (names : List ByteArray) (last : Int) (n : Nat) : ∀ r r', run names last n .til r = some (.go r') → r'.next ≠ [85] ∧ r'.next ≠ [82] := by
 induction n with
 | zero => intro r r' h; rw [run] at h; cases h
 | succ n ih =>
  intro r r' h
  rw [run] at h
  obtain ⟨r1, h1, h2⟩ := then_go h
  split at h2
  ·obtain ⟨r2, h3, h4⟩ := then_go h2
   have := ih _ _ h3
   cases h4
   rw [put_next]; exact this
  ·rename_i hn
   split at h2
   ·obtain ⟨r2, h3, h4⟩ := then_go h2
    have := ih _ _ h3
    cases h4
    rw [put_next]; exact this
   ·rename_i hm
    cases h2
    exact ⟨hn, hm⟩
theorem op_one (s w : Bs) (o : Int) : opL [w] [o] s = if s = w then some o else none := by rw [opL]; rfl
theorem more_left {q : Rc} {n k : Nat} {nt : Nt} {s : Bs} {op : Int} (hw : lvW k = [s]) (ho : lvO k = [op]) (hr : ∀ m r, run q.names q.last (m + 1) nt r = if r.next = s then thenDo (run q.names q.last m (ntK (nxK k)) r.pop) (fun r => run q.names q.last m nt (r.put op)) else some (.go r)) (h0 : ∀ r, run q.names q.last 0 nt r = none) (m : Nat) : ∀ r e, m ≤ n → run q.names q.last m nt r = some e → More2 q n k m r e := by
 induction m with
 | zero => intro r e _ h; rw [h0] at h; cases h
 | succ m ih =>
  intro r e hm h
  rw [hr] at h
  by_cases hn : r.next = s
  ·have hop : opK k r.next = some op := by unfold opK; rw [hw, ho, op_one, if_pos hn]
   rw [if_pos hn] at h
   cases h1 : run q.names q.last m (ntK (nxK k)) r.pop with
   | none => rw [h1] at h; cases h
   | some e1 =>
    rw [h1] at h
    cases e1 with
    | stop er p => cases h; exact .fail hop (by omega) h1
    | go r1 => exact .next hop (by omega) h1 (ih _ _ (by omega) h)
  ·rw [if_neg hn] at h
   cases h
   exact .stop (by unfold opK; rw [hw, ho, op_one, if_neg hn])
/-- A level: what is stronger, and its rounds. -/
theorem level_run {q : Rc} {n k : Nat} (hk : k < 5) {r : Rd} {e : End} (h : run q.names q.last (n + 1) (ntK k) r = some e) :
  ∃ e1, run q.names q.last n (ntK (k + 1)) r = some e1 ∧ ((∃ er p, e1 = .stop er p ∧ e = .stop er p) ∨ ∃ r1, e1 = .go r1 ∧ More2 q n k (n + 1) r1 e) := by
 have two : ∀ (a b : Nt) (f : ∀ r e, run q.names q.last n b r = some e → More2 q n k (n + 1) r e), thenDo (run q.names q.last n a r) (run q.names q.last n b) = some e → ∃ e1, run q.names q.last n a r = some e1 ∧ ((∃ er p, e1 = .stop er p ∧ e = .stop er p) ∨ ∃ r1, e1 = .go r1 ∧ More2 q n k (n + 1) r1 e) := by
  intro a b f h
  cases h1 : run q.names q.last n a r with
  | none => rw [h1] at h; cases h
  | some e1 =>
   rw [h1] at h
   refine ⟨e1, rfl, ?_⟩
   cases e1 with
   | stop er p => cases h; exact .inl ⟨er, p, rfl, rfl⟩
   | go r1 => exact .inr ⟨r1, rfl, f _ _ h⟩
 have up : ∀ m r e, m ≤ n + 1 → More2 q n k m r e → More2 q n k (n + 1) r e := by
  intro m r e hm hh
  obtain ⟨d, hd⟩ : ∃ d, n + 1 = m + d := ⟨n + 1 - m, by omega⟩
  rw [hd]
  clear hd hm
  induction hh generalizing d with
  | stop h => exact .stop h
  | @fail m m' r o er p h1 h2 h3 => rw [show m + 1 + d = (m + d) + 1 by omega]; exact .fail h1 h2 h3
  | @next m m' r r1 o e h1 h2 h3 h4 ih => rw [show m + 1 + d = (m + d) + 1 by omega]; exact .next h1 h2 h3 (ih d)
 match k, hk with
 | 0, _ =>
  rw [show ntK 0 = .iff from rfl, run] at h
  exact two _ _ (fun r e hh => up _ _ _ (by omega) (more_left (k := 0) rfl rfl (fun m r => by rw [run]; rfl) (fun r => by rw [run]) n r e (Nat.le_refl _) hh)) h
 | 2, _ =>
  rw [show ntK 2 = .or from rfl, run] at h
  exact two _ _ (fun r e hh => up _ _ _ (by omega) (more_left (k := 2) rfl rfl (fun m r => by rw [run]; rfl) (fun r => by rw [run]) n r e (Nat.le_refl _) hh)) h
 | 3, _ =>
  rw [show ntK 3 = .and from rfl, run] at h
  exact two _ _ (fun r e hh => up _ _ _ (by omega) (more_left (k := 3) rfl rfl (fun m r => by rw [run]; rfl) (fun r => by rw [run]) n r e (Nat.le_refl _) hh)) h
 | 1, _ =>
  rw [show ntK 1 = .imp from rfl, run] at h
  cases h1 : run q.names q.last n .or r with
  | none => rw [h1] at h; cases h
  | some e1 =>
   rw [h1] at h
   refine ⟨e1, h1, ?_⟩
   cases e1 with
   | stop er p => cases h; exact .inl ⟨er, p, rfl, rfl⟩
   | go r1 =>
    refine .inr ⟨r1, rfl, ?_⟩
    have h2 : (if r1.next = [45, 62] then thenDo (run q.names q.last n .imp r1.pop) (fun r => some (.go (r.put 13))) else some (.go r1)) = some e := h
    by_cases hn : r1.next = [45, 62]
    ·have hop : opK 1 r1.next = some 13 := by unfold opK; rw [show lvW 1 = [[45, 62]] from rfl, show lvO 1 = [13] from rfl, op_one, if_pos hn]
     rw [if_pos hn] at h2
     cases h3 : run q.names q.last n .imp r1.pop with
     | none => rw [h3] at h2; cases h2
     | some e3 =>
      rw [h3] at h2
      cases e3 with
      | stop er p => cases h2; exact .fail hop (Nat.le_refl _) h3
      | go r2 =>
       cases h2
       refine .next hop (Nat.le_refl _) h3 (.stop ?_)
       unfold opK
       rw [show lvW 1 = [[45, 62]] from rfl, show lvO 1 = [13] from rfl, op_one, put_next, if_neg (imp_end _ _ _ _ _ h3)]
    ·rw [if_neg hn] at h2
     cases h2
     exact .stop (by unfold opK; rw [show lvW 1 = [[45, 62]] from rfl, show lvO 1 = [13] from rfl, op_one, if_neg hn])
 | 4, _ =>
  rw [show ntK 4 = .til from rfl, run] at h
  have o4 : ∀ s, opK 4 s = if s = [85] then some 15 else if s = [82] then some 16 else none := fun s => by unfold opK; rw [show lvW 4 = [[85], [82]] from rfl, show lvO 4 = [15, 16] from rfl, opL, op_one]
  cases h1 : run q.names q.last n .unary r with
  | none => rw [h1] at h; cases h
  | some e1 =>
   rw [h1] at h
   refine ⟨e1, h1, ?_⟩
   cases e1 with
   | stop er p => cases h; exact .inl ⟨er, p, rfl, rfl⟩
   | go r1 =>
    refine .inr ⟨r1, rfl, ?_⟩
    have h2 : (if r1.next = [85] then thenDo (run q.names q.last n .til r1.pop) (fun r => some (.go (r.put 15))) else if r1.next = [82] then thenDo (run q.names q.last n .til r1.pop) (fun r => some (.go (r.put 16))) else some (.go r1)) = some e := h
    have fin : ∀ o, opK 4 r1.next = some o → thenDo (run q.names q.last n .til r1.pop) (fun r => some (.go (r.put o))) = some e → More2 q n 4 (n + 1) r1 e := by
     intro o hop h2
     cases h3 : run q.names q.last n .til r1.pop with
     | none => rw [h3] at h2; cases h2
     | some e3 =>
      rw [h3] at h2
      cases e3 with
      | stop er p => cases h2; exact .fail hop (Nat.le_refl _) h3
      | go r2 =>
       cases h2
       refine .next hop (Nat.le_refl _) h3 (.stop ?_)
       obtain ⟨a1, a2⟩ := til_end _ _ _ _ _ h3
       rw [o4, put_next, if_neg a1, if_neg a2]
    by_cases hn : r1.next = [85]
    ·rw [if_pos hn] at h2
     exact fin 15 (by rw [o4, if_pos hn]) h2
    ·rw [if_neg hn] at h2
     by_cases hm : r1.next = [82]
     ·rw [if_pos hm] at h2
      exact fin 16 (by rw [o4, if_neg hn, if_pos hm]) h2
     ·rw [if_neg hm] at h2
      cases h2
      exact .stop (by rw [o4, if_neg hn, if_neg hm])
end Go.Proofs.YtaogoabnidbbpaaGreatDoor.PText
namespace Go.Proofs.YtaogoabnidbbpaaGreatDoor.PText
open Go.RowKit Go.Proofs.YtaogoabnidbbpaaGreatDoorW.PrintWords Go.Proofs.YtaogoabnidbbpaaGreatDoorW.PrintLast Go.Proofs.YtaogoabnidbbpaaGreatDoorW.PrintMore Go.Proofs.YtaogoabnidbbpaaGreatDoorW.Aid
set_option linter.unusedVariables false
set_option linter.unusedSimpArgs false
/-- How a method's end is told of the memory: its tokens, and where the reader stands; or that it stopped. -/
def Told2 (q : Rc) (W : World) (pl : Int) (r : Rd) (n : Nat) : End → Ending → World → Prop
 | .go r', e, w' => ∃ v l a', e = .returned v ∧ r'.out = r.out ++ l ∧ r'.ws = q.ws.drop a' ∧ a' ≤ q.ws.length ∧ l.length ≤ 4096 ∧ Hold q W w' v l a' 0 pl
 | .stop er p, e, w' => ∃ v l a', e = .returned v ∧ l.length ≤ 5000 * n ∧ er ≠ 0 ∧ Hold q W w' v l a' er p
/-- What a call of a method does, where the parser with so many rounds has an answer. -/
def DoesC (q : Rc) (n : Nat) (nt : Nt) (C : World → (Ending → World → Prop) → Prop) : Prop :=
 ∀ (r : Rd) (e : End), run q.names q.last n nt r = some e → ∀ (W : World) (a : Nat) (pl : Int), r.ws = q.ws.drop a → a ≤ q.ws.length → Rf q W a 0 pl → C W (Told2 q W pl r n e)
def DoesAt (q : Rc) (n k : Nat) : Prop := DoesC q n (ntK k) fun W P => Calls Tryz.prog 52 #[.pointer (some ⟨q.g, 0, none⟩), .int .i64 (k : Int)] W P
def DoesUnary (q : Rc) (n : Nat) : Prop := DoesC q n .unary fun W P => Calls Tryz.prog 69 #[.pointer (some ⟨q.g, 0, none⟩)] W P
theorem next_drop {q : Rc} {r : Rd} {a : Nat} (hr : r.ws = q.ws.drop a) : r.next = (q.rd a).next := by unfold Rc.rd Rd.next; rw [hr]
theorem pop_drop {q : Rc} {r : Rd} {a : Nat} (hr : r.ws = q.ws.drop a) : r.pop.ws = q.ws.drop (a + 1) := by unfold Rd.pop; rw [hr, List.drop_drop]
theorem opL_ne {ws : List Bs} {os : List Int} {s : Bs} {o : Int} (h : opL ws os s = some o) : s ∈ ws := by
 induction ws generalizing os with
 | nil => rw [opL] at h; cases h; exact fun _ _ _ _ h _ => by cases h
 | cons w ws ih =>
  cases os with
  | nil => rw [opL] at h; cases h; exact fun _ _ _ _ _ h => by cases h
  | cons o2 os =>
   rw [opL] at h
   by_cases hs : s = w
   ·rw [hs]; exact List.mem_cons_self
   ·rw [if_neg hs] at h; exact List.mem_cons_of_mem _ (ih h)
theorem lvW_ne (k : Nat) : ∀ w ∈ lvW k, w ≠ [] := by
 match k with
 | 0 => decide
 | 1 => decide
 | 2 => decide
 | 3 => decide
 | n + 4 => show ∀ w ∈ ([[85], [82]] : List Bs), w ≠ []; decide
theorem lv_len (k : Nat) : (lvO k).length = (lvW k).length ∧ (lvW k).length ≤ 2 := by
 match k with
 | 0 => decide
 | 1 => decide
 | 2 => decide
 | 3 => decide
 | n + 4 => exact ⟨rfl, Nat.le_refl 2⟩
/-- At level 5 a formula is read as one behind a sign. -/
theorem at5_does (q : Rc) (hq : q.ok) (n : Nat) (d : DoesUnary q n) : DoesAt q n 5 := by
 intro r e hrun W a pl hr ha hF
 have HF := Aside0.mk hF
 have HD := Aside0.mk (fun W1 (h : Rf q W1 a 0 pl) => d r e hrun W1 a pl hr ha h)
 have HP : Aside0 (∀ W1 e1 w1, KeepG q.g W W1 → Told2 q W1 pl r n e e1 w1 → Told2 q W pl r n e e1 w1) := ⟨fun W1 e1 w1 hk ht => by
  cases e with
  | go r' => obtain ⟨v, l, a', h1, h2, h3, h4, h5, h6⟩ := ht; exact ⟨v, l, a', h1, h2, h3, h4, h5, h6.low hk⟩
  | stop er p => obtain ⟨v, l, a', h1, h2, h3, h6⟩ := ht; exact ⟨v, l, a', h1, h2, h3, h6.low hk⟩⟩
 have HQ := Aside0.mk hq
 have HV : Aside0 (∀ W1 e1 w1, Told2 q W1 pl r n e e1 w1 → ∃ v, e1 = .returned v) := ⟨fun W1 e1 w1 ht => by
  cases e with
  | go r' => obtain ⟨v, l, a', h1, _⟩ := ht; exact ⟨v, h1⟩
  | stop er p => obtain ⟨v, l, a', h1, _⟩ := ht; exact ⟨v, h1⟩⟩
 clear hrun hF d hq
 show Calls Tryz.prog 52 _ W _
 go_enter Tryz.func52, Tryz.ntmps52
 go_wp2_with (first | (go_at_call 68; refine (levels_calls _).mono ?_; rintro e2 w1 ⟨B, rfl, hb, hl⟩; have HB := Aside0.mk hb; clear hb hl) | (go_at_call 69; refine (HD.out _ (HF.out.keep HQ.out HB.out)).mono ?_; intro e2 w2 ht; obtain ⟨v, rfl⟩ := HV.out _ _ _ ht; have HT := Aside0.mk (HP.out _ _ _ (KeepBut.of_below HB.out _ _) ht); clear ht))
 go_ret
 exact HT.out
theorem Hold.keep {q : Rc} {W w' w2 : World} {v : Value} {l : List Tk} {a a2 : Nat} {er er2 pl pl2 : Int} (h : Hold q W w' v l a er pl) (hF : Rf q w2 a2 er2 pl2) (hk : KeepG q.g w' w2) : Hold q W w2 v l a2 er2 pl2 := ⟨Kd.R_keep h.1 hk (fun _ hk => hk), hF, h.2.2.trans hk⟩
/-- What holds at a level's rounds. -/
def AtJ (q : Rc) (W1 : World) (pl : Int) (r : Rd) (e : End) (n k kq : Nat) (v : Value) (w' : World) : Prop := ∃ l a' er' pl', Hold q W1 w' v l a' er' pl' ∧
 ((er' = 0 ∧ pl' = pl ∧ ∃ rc, More2 q n k kq rc e ∧ rc.ws = q.ws.drop a' ∧ a' ≤ q.ws.length ∧ rc.out = r.out ++ l ∧ rc.size ≤ r.size) ∨ (er' ≠ 0 ∧ e = .stop er' pl' ∧ l.length ≤ 5000 * (n + 1)))
theorem out_len {q : Rc} {r rc : Rd} {l : List Tk} {a : Nat} (hq : q.ok) (hr : r.ws = q.ws.drop a) (ho : rc.out = r.out ++ l) (hs : rc.size ≤ r.size) : l.length ≤ 4096 := by
 unfold Rd.size at hs
 rw [ho, hr, List.length_append, List.length_drop] at hs
 have := hq.2.2.1
 omega
set_option maxHeartbeats 8000000 in
set_option maxRecDepth 100000 in
theorem at_does (q : Rc) (hq : q.ok) (n : Nat) (hn : n ≤ 100000) (k : Nat) (hk : k < 5) (dsub : DoesAt q n (k + 1)) (dnx : ∀ m, m ≤ n → DoesAt q m (nxK k)) : DoesAt q (n + 1) k := by
 intro r e hrun W a pl hr ha hF
 obtain ⟨e1, h1, h2⟩ := level_run hk hrun
 have HQ := Aside0.mk hq
 have HF := Aside0.mk hF
 have HW := Aside0.mk (show q.g < W.heap.size from blk_lt hF.1)
 have HD := Aside0.mk (fun W1 (h : Rf q W1 a 0 pl) => dsub r e1 h1 W1 a pl hr ha h)
 have HJ : Aside0 (∀ w1 e2 w2, Told2 q w1 pl r n e1 e2 w2 → ∃ v, e2 = .returned v ∧ AtJ q w1 pl r e n k (n + 1) v w2) := ⟨fun w1 e2 w2 ht => by
  rcases h2 with ⟨er, p, rfl, rfl⟩ | ⟨r1, rfl, hm⟩
  ·obtain ⟨v, l, a', hv, hl2, her, hh⟩ := ht
   exact ⟨v, hv, l, a', er, p, hh, .inr ⟨her, rfl, by omega⟩⟩
  ·obtain ⟨v, l, a', hv, ho, hws, ha', hl2, hh⟩ := ht
   exact ⟨v, hv, l, a', 0, pl, hh, .inl ⟨rfl, rfl, r1, hm, hws, ha', ho, run_slim _ _ _ _ _ _ h1⟩⟩⟩
 have HNX := Aside0.mk dnx
 have HN := Aside0.mk (show n ≤ 100000 ∧ k < 5 ∧ r.ws = q.ws.drop a from ⟨hn, hk, hr⟩)
 have c5 : decide (5 ≤ k) = false := decide_eq_false (by omega)
 have c5b : decide ((5 : Int) ≤ (k : Int)) = false := decide_eq_false (by omega)
 have hwk : Aside0 (wrap64 ((k : Int) + 1) = ((k + 1 : Nat) : Int)) := ⟨w64_succ (by omega)⟩
 have hwk2 : IntKind.i64.wrap ((k : Int) + 1) = ((k + 1 : Nat) : Int) := by rw [i64_w]; exact hwk.out
 clear hq hF dsub dnx hn hrun hk h1 h2 hr
 show Calls Tryz.prog 52 _ W _
 go_enter Tryz.func52, Tryz.ntmps52
 go_wp2_with (first | (go_at_call 68; refine (levels_calls _).mono ?_; rintro e2 w1 ⟨B, rfl, hb, hl⟩; have HB := Aside0.mk hb; have HLV := Aside0.mk hl; clear hb hl) | (go_at_call 52; refine (HD.out _ (HF.out.keep HQ.out HB.out)).mono ?_; intro e2 w2 ht; obtain ⟨v, rfl, hj⟩ := HJ.out _ _ _ ht; have HJ2 := Aside0.mk hj; have HW1 : Aside0 (q.g < w1.heap.size) := ⟨Nat.lt_of_lt_of_le HW.out HB.out.size⟩; clear ht hj HD HJ HF))
 go_loopg [6] (n + 1) (fun kq v6 w' => ∃ (vo : Value) (wq : World), vo = v6 ∧ wq = w' ∧ Aside0 (AtJ q w1 pl r e n k kq vo wq))
 case atStart => exact ⟨_, _, rfl, rfl, HJ2⟩
 case round =>
  clear HJ2
  obtain ⟨vo, wq, hvo, hwq, hrel⟩ := hrel
  subst hvo
  subst hwq
  obtain ⟨l, a', er', pl', hh, hst⟩ := hrel.out
  clear hrel
  have HH := Aside0.mk hh
  have HST := Aside0.mk hst
  have d4 : wq.cell? ⟨q.g, 4, none⟩ = some (.int .i64 er') := (blk_cell hh.2.1.1 4).trans rfl
  clear hh hst
  by_cases he : er' = 0
  ·subst he
   obtain ⟨rfl, rc, hm, hws, ha2, hout, hsz⟩ : pl' = pl ∧ ∃ rc, More2 q n k gk rc e ∧ rc.ws = q.ws.drop a' ∧ a' ≤ q.ws.length ∧ rc.out = r.out ++ l ∧ rc.size ≤ r.size := by
    rcases HST.out with ⟨_, h1, h2⟩ | ⟨h, _⟩
    ·exact ⟨h1, h2⟩
    ·exact absurd rfl h
   have hlen := out_len HQ.out HN.out.2.2 hout hsz
   obtain ⟨gw, go_, x1, x2, x3, x4, x5, x6, x7⟩ := (HLV.out.keep HW.out (KeepBut.refl _ _ _)).2 k HN.out.2.1
   have hgB : B ≠ q.g := by have := HLV.out.1; have := HW.out; omega
   rw [Nat.mul_comm] at x1 x2 x3
   replace x1 := keep_cell HH.out.2.2 x1 hgB
   replace x2 := keep_cell HH.out.2.2 x2 hgB
   replace x3 := keep_cell HH.out.2.2 x3 hgB
   have X := Aside0.mk (show _ ∧ _ from ⟨x3, hgB⟩)
   have p1 := eq_true (show (0 : Int) ≤ (k : Int) by omega)
   have p2 := eq_true HN.out.2.1
   have p3 := eq_true (show (k : Int) < 5 by have := HN.out.2.1; omega)
   have HOP := Aside0.mk (fun nd x hx => op_calls q HQ.out (wq.drewN nd) a' pl' (lvW k) (lvO k) gw go_ (lvR k) x hx (HH.out.2.1.drewN nd) (fun i hi => keep_cell HH.out.2.2 (x4 i hi) (by show gw ≠ q.g; have := HW.out; omega)) (fun i hi => keep_cell HH.out.2.2 (x5 i hi) (by show go_ ≠ q.g; have := HW.out; omega)) (lv_len k).1 (by have := (lv_len k).2; omega) (lvW_ne k) (by have := HW.out; omega))
   have HS := Aside0.mk (show l.length ≤ 4096 ∧ rc.ws = q.ws.drop a' ∧ a' ≤ q.ws.length ∧ rc.out = r.out ++ l ∧ rc.size ≤ r.size from ⟨hlen, hws, ha2, hout, hsz⟩)
   have hnx := next_drop hws
   clear HST x4 x5 x6 x7 hlen hws ha2 hout hsz hgB
   cases hm with
   | stop hop =>
    have HO := Aside0.mk (fun nd => HOP.out nd none (by rw [← hnx]; exact hop))
    clear HOP hop hnx
    go_wp2_with (go_at_call 70; refine (HO.out 0).mono ?_; rintro e3 w3 ⟨rfl, hf, hk⟩; have HH2 := Aside0.mk (HH.out.keep hf hk); clear hf hk)
    go_ret
    exact ⟨vo, l, a', rfl, HS.out.2.2.2.1, HS.out.2.1, HS.out.2.2.1, HS.out.1, (HH2.out.alloc _).low (KeepBut.of_below HB.out _ _)⟩
   | @fail m m' _ o er p hop hm' hr1 =>
    have hlt : a' < q.ws.length := is_lt (lvW_ne k _ (opL_ne hop)) hnx.symm
    have HO := Aside0.mk (fun nd => HOP.out nd (some o) (by rw [← hnx]; exact hop))
    have HD2 := Aside0.mk (fun w (h : Rf q w (a' + 1) 0 pl') => HNX.out m' hm' rc.pop _ hr1 w (a' + 1) pl' (pop_drop HS.out.2.1) (by omega) h)
    have HM := Aside0.mk hm'
    clear HOP hop hnx hm' hr1 hlt HNX
    cases hR : lvR k
    all_goals
     first
     | (have e9 : ((nxK k : Nat) : Int) = (k : Int) + 1 := by unfold nxK; rw [hR, if_neg (by decide)]; omega)
     | (have e9 : ((nxK k : Nat) : Int) = (k : Int) := by unfold nxK; rw [hR, if_pos rfl])
     rw [e9] at HD2
     rw [hR] at x3 X HO
     clear e9 hR
     go_wp2_with (first | (go_at_call 70; refine (HO.out 0).mono ?_; rintro e3 w3 ⟨rfl, hf, hk⟩; have y3 := keep_cell ((KeepG.trans hk (KeepG.refl _ _)).alloc (.cells #[.int .u8 o, .int .u8 0] 41)) X.out.1 X.out.2; have HH2 := Aside0.mk (HH.out.keep hf hk); clear hf hk) | (go_at_call 52; refine (HD2.out _ (HH2.out.alloc _).2.1).mono ?_; rintro e4 w4 ⟨v2, l2, a3, rfl, hl2, her, hh2⟩; obtain ⟨A2, c2, rfl⟩ := Kd.R_slice hh2.1; have HR2 := Aside0.mk (Kd.R_reads' hh2.1); have HH3 := Aside0.mk ((HH2.out.alloc _).keep hh2.2.1 hh2.2.2); have HE := Aside0.mk (And.intro hl2 her); have BK7 := KeepBut.blk hh2.2.2 (blk_new _ _) (by have := HW1.out; have := HH2.out.2.2.1; omega) (by simp); have HT7 := Aside0.mk (HH2.out.lt); clear hl2 her hh2 HD2) | ((with_reducible refine gate_builtin (b := .append) (xs := #[.tmp 46, .tmp 49]) rfl ?_); at_builtin; refine hold_rows q HQ.out HW1.out rfl (.tmp 46) (.tmp 49) rfl rfl rfl HH3.out HR2.out.2.2 (by have := HS.out.1; have := HE.out.1; have := HN.out.1; have := HM.out; omega) ?_; intro v5 w5 hh5 hg5; have HH5 := Aside0.mk hh5; have BK8 := blk_grown BK7 hg5 HT7.out; have z0 : w5.cell? ⟨w3.heap.size, 0, none⟩ = some (.int .u8 o) := (blk_cell BK8 0).trans rfl; have z1 : w5.cell? ⟨w3.heap.size, 1, none⟩ = some (.int .u8 0) := (blk_cell BK8 1).trans rfl; clear hh5 hg5 BK8 BK7 HH3) | ((with_reducible refine gate_builtin (b := .append) (xs := #[.tmp 51, .tmp 53]) rfl ?_); at_builtin; refine hold_append q HQ.out HW1.out (⟨o, 0⟩ : Tk) rfl (.tmp 51) (.tmp 53) rfl rfl rfl HH5.out (by rw [List.length_append]; have := HS.out.1; have := HE.out.1; have := HN.out.1; have := HM.out; omega) ?_; intro v6 w6 hh6 hg6; have HH6 := Aside0.mk hh6; clear hh6 hg6))
     go_roundg m
     case measure => exact Nat.lt_succ_self _
     case rel => exact ⟨_, _, rfl, rfl, ⟨_, a3, er, p, HH6.out, .inr ⟨HE.out.2, rfl, by simp only [List.length_append, List.length_cons, List.length_nil]; have := HS.out.1; have := HE.out.1; have := HM.out; omega⟩⟩⟩
   | @next m m' _ r1 o _ hop hm' hr1 hmore =>
    have hlt : a' < q.ws.length := is_lt (lvW_ne k _ (opL_ne hop)) hnx.symm
    have HO := Aside0.mk (fun nd => HOP.out nd (some o) (by rw [← hnx]; exact hop))
    have HD2 := Aside0.mk (fun w (h : Rf q w (a' + 1) 0 pl') => HNX.out m' hm' rc.pop _ hr1 w (a' + 1) pl' (pop_drop HS.out.2.1) (by omega) h)
    have HM := Aside0.mk hm'
    have HZ := Aside0.mk (show More2 q n k m (r1.put o) e ∧ (r1.put o).size ≤ r.size from ⟨hmore, by
     have h1 := run_slim _ _ _ _ _ _ hr1
     have h2 := pop_one (r := rc) (by have h9 := congrArg List.length HS.out.2.1; rw [List.length_drop] at h9; omega)
     have h3 := HS.out.2.2.2.2
     rw [put_one]
     omega⟩)
    clear HOP hop hnx hm' hr1 hlt HNX hmore
    cases hR : lvR k
    all_goals
     first
     | (have e9 : ((nxK k : Nat) : Int) = (k : Int) + 1 := by unfold nxK; rw [hR, if_neg (by decide)]; omega)
     | (have e9 : ((nxK k : Nat) : Int) = (k : Int) := by unfold nxK; rw [hR, if_pos rfl])
     rw [e9] at HD2
     rw [hR] at x3 X HO
     clear e9 hR
     go_wp2_with (first | (go_at_call 70; refine (HO.out 0).mono ?_; rintro e3 w3 ⟨rfl, hf, hk⟩; have y3 := keep_cell ((KeepG.trans hk (KeepG.refl _ _)).alloc (.cells #[.int .u8 o, .int .u8 0] 41)) X.out.1 X.out.2; have HH2 := Aside0.mk (HH.out.keep hf hk); clear hf hk) | (go_at_call 52; refine (HD2.out _ (HH2.out.alloc _).2.1).mono ?_; rintro e4 w4 ⟨v2, l2, a3, rfl, ho2, hws2, ha3, hl2, hh2⟩; obtain ⟨A2, c2, rfl⟩ := Kd.R_slice hh2.1; have HR2 := Aside0.mk (Kd.R_reads' hh2.1); have HH3 := Aside0.mk ((HH2.out.alloc _).keep hh2.2.1 hh2.2.2); have HE := Aside0.mk (show l2.length ≤ 4096 ∧ r1.out = rc.out ++ l2 ∧ r1.ws = q.ws.drop a3 ∧ a3 ≤ q.ws.length from ⟨hl2, ho2, hws2, ha3⟩); have BK7 := KeepBut.blk hh2.2.2 (blk_new _ _) (by have := HW1.out; have := HH2.out.2.2.1; omega) (by simp); have HT7 := Aside0.mk (HH2.out.lt); clear hl2 ho2 hws2 ha3 hh2 HD2) | ((with_reducible refine gate_builtin (b := .append) (xs := #[.tmp 46, .tmp 49]) rfl ?_); at_builtin; refine hold_rows q HQ.out HW1.out rfl (.tmp 46) (.tmp 49) rfl rfl rfl HH3.out HR2.out.2.2 (by have := HS.out.1; have := HE.out.1; have := HN.out.1; have := HM.out; omega) ?_; intro v5 w5 hh5 hg5; have HH5 := Aside0.mk hh5; have BK8 := blk_grown BK7 hg5 HT7.out; have z0 : w5.cell? ⟨w3.heap.size, 0, none⟩ = some (.int .u8 o) := (blk_cell BK8 0).trans rfl; have z1 : w5.cell? ⟨w3.heap.size, 1, none⟩ = some (.int .u8 0) := (blk_cell BK8 1).trans rfl; clear hh5 hg5 BK8 BK7 HH3) | ((with_reducible refine gate_builtin (b := .append) (xs := #[.tmp 51, .tmp 53]) rfl ?_); at_builtin; refine hold_append q HQ.out HW1.out (⟨o, 0⟩ : Tk) rfl (.tmp 51) (.tmp 53) rfl rfl rfl HH5.out (by rw [List.length_append]; have := HS.out.1; have := HE.out.1; have := HN.out.1; have := HM.out; omega) ?_; intro v6 w6 hh6 hg6; have HH6 := Aside0.mk hh6; clear hh6 hg6))
     go_roundg m
     case measure => exact Nat.lt_succ_self _
     case rel => exact ⟨_, _, rfl, rfl, ⟨_, a3, 0, pl', HH6.out, .inl ⟨rfl, rfl, r1.put o, HZ.out.1, HE.out.2.2.1, HE.out.2.2.2, by show r1.out ++ [(⟨o, 0⟩ : Tk)] = _; rw [HE.out.2.1, HS.out.2.2.2.1]; simp only [List.append_assoc], HZ.out.2⟩⟩⟩
  ·obtain ⟨rfl, hl⟩ : e = .stop er' pl' ∧ l.length ≤ 5000 * (n + 1) := by
    rcases HST.out with ⟨h, _⟩ | ⟨_, h, h2⟩
    ·exact absurd h he
    ·exact ⟨h, h2⟩
   have c0 : (er' == 0) = false := beq_eq_false_iff_ne.2 he
   have HE : Aside0 (er' ≠ 0 ∧ l.length ≤ 5000 * (n + 1)) := ⟨he, hl⟩
   clear HST hl he
   go_wp2
   go_ret
   exact ⟨_, l, a', rfl, HE.out.2, HE.out.1, HH.out.low (KeepBut.of_below HB.out _ _)⟩
theorem Rf.inc {q : Rc} {W : World} {a : Nat} {er pl : Int} (hq : q.ok) (h : Rf q W a er pl) (ha : a < q.ws.length) : Rf q (W.setCell ⟨q.g, 1, none⟩ (.int .i64 (wrap64 ((a : Int) + 1)))) (a + 1) er pl := by
 rw [w64_succ (by have := hq.2.2.1; omega)]
 exact h.at1 hq (a + 1)
theorem Hold.inc {q : Rc} {W w' : World} {v : Value} {l : List Tk} {a : Nat} {er pl : Int} (hq : q.ok) (h : Hold q W w' v l a er pl) (ha : a < q.ws.length) : Hold q W (w'.setCell ⟨q.g, 1, none⟩ (.int .i64 (wrap64 ((a : Int) + 1)))) v l (a + 1) er pl := ⟨Kd.R_far h.1 (fun _ hk => hk) _, h.2.1.inc hq ha, h.2.2.set _⟩
def ntP : Nat → Nt
 | 0 => .plus | 1 => .seq | 2 => .star | _ => .bare
def sgP : Nat → Bs
 | 0 => [43] | _ => [59]
theorem sgP_ne (k : Nat) : sgP k ≠ [] := by
 match k with
 | 0 => decide
 | n + 1 => show ([59] : Bs) ≠ []; decide
def opP : Nat → Int
 | 0 => 21 | _ => 22
def DoesPath (q : Rc) (n k : Nat) : Prop := DoesC q n (ntP k) fun W P => Calls Tryz.prog 51 #[.pointer (some ⟨q.g, 0, none⟩), .int .i64 (k : Int)] W P
def DoesBare (q : Rc) (n : Nat) : Prop := DoesC q n .bare fun W P => Calls Tryz.prog 66 #[.pointer (some ⟨q.g, 0, none⟩)] W P
/-- The rounds of a path's level. -/
inductive MoreP (q : Rc) (n k : Nat) : Nat → Rd → End → Prop
 | stop {m : Nat} {r : Rd} : r.next ≠ sgP k → MoreP q n k m r (.go r)
 | fail {m m' : Nat} {r : Rd} {er p : Int} : r.next = sgP k → m' ≤ n → run q.names q.last m' (ntP (k + 1)) r.pop = some (.stop er p) → MoreP q n k (m + 1) r (.stop er p)
 | next {m m' : Nat} {r r1 : Rd} {e : End} : r.next = sgP k → m' ≤ n → run q.names q.last m' (ntP (k + 1)) r.pop = some (.go r1) → MoreP q n k m (r1.put (opP k)) e → MoreP q n k (m + 1) r e
theorem moreP_of {q : Rc} {n k : Nat} {nt : Nt} (hr : ∀ m r, run q.names q.last (m + 1) nt r = if r.next = sgP k then thenDo (run q.names q.last m (ntP (k + 1)) r.pop) (fun r => run q.names q.last m nt (r.put (opP k))) else some (.go r)) (h0 : ∀ r, run q.names q.last 0 nt r = none) (m : Nat) : ∀ r e, m ≤ n → run q.names q.last m nt r = some e → MoreP q n k m r e := by
 induction m with
 | zero => intro r e _ h; rw [h0] at h; cases h
 | succ m ih =>
  intro r e hm h
  rw [hr] at h
  by_cases hn : r.next = sgP k
  ·rw [if_pos hn] at h
   cases h1 : run q.names q.last m (ntP (k + 1)) r.pop with
   | none => rw [h1] at h; cases h
   | some e1 =>
    rw [h1] at h
    cases e1 with
    | stop er p => cases h; exact .fail hn (by omega) h1
    | go r1 => exact .next hn (by omega) h1 (ih _ _ (by omega) h)
  ·rw [if_neg hn] at h
   cases h
   exact .stop hn
/-- A path's level: what is stronger, and its rounds. -/
theorem path_run {q : Rc} {n k : Nat} (hk : k < 2) {r : Rd} {e : End} (h : run q.names q.last (n + 1) (ntP k) r = some e) :
  ∃ e1, run q.names q.last n (ntP (k + 1)) r = some e1 ∧ ((∃ er p, e1 = .stop er p ∧ e = .stop er p) ∨ ∃ r1, e1 = .go r1 ∧ MoreP q n k n r1 e) := by
 have two : ∀ (a b : Nt) (f : ∀ r e, run q.names q.last n b r = some e → MoreP q n k n r e), thenDo (run q.names q.last n a r) (run q.names q.last n b) = some e → ∃ e1, run q.names q.last n a r = some e1 ∧ ((∃ er p, e1 = .stop er p ∧ e = .stop er p) ∨ ∃ r1, e1 = .go r1 ∧ MoreP q n k n r1 e) := by
  intro a b f h
  cases h1 : run q.names q.last n a r with
  | none => rw [h1] at h; cases h
  | some e1 =>
   rw [h1] at h
   refine ⟨e1, rfl, ?_⟩
   cases e1 with
   | stop er p => cases h; exact .inl ⟨er, p, rfl, rfl⟩
   | go r1 => exact .inr ⟨r1, rfl, f _ _ h⟩
 match k, hk with
 | 0, _ =>
  rw [show ntP 0 = .plus from rfl, run] at h
  exact two _ _ (fun r e hh => moreP_of (k := 0) (fun m r => by rw [run]; rfl) (fun r => by rw [run]) n r e (Nat.le_refl _) hh) h
 | 1, _ =>
  rw [show ntP 1 = .seq from rfl, run] at h
  exact two _ _ (fun r e hh => moreP_of (k := 1) (fun m r => by rw [run]; rfl) (fun r => by rw [run]) n r e (Nat.le_refl _) hh) h
def PaJ (q : Rc) (W1 : World) (pl : Int) (r : Rd) (e : End) (n k kq : Nat) (v : Value) (w' : World) : Prop := ∃ l a' er' pl', Hold q W1 w' v l a' er' pl' ∧
 ((er' = 0 ∧ pl' = pl ∧ ∃ rc, MoreP q n k kq rc e ∧ rc.ws = q.ws.drop a' ∧ a' ≤ q.ws.length ∧ rc.out = r.out ++ l ∧ rc.size ≤ r.size) ∨ (er' ≠ 0 ∧ e = .stop er' pl' ∧ l.length ≤ 5000 * (n + 1)))
set_option maxHeartbeats 8000000 in
set_option maxRecDepth 100000 in
theorem path_does (q : Rc) (hq : q.ok) (n : Nat) (hn : n ≤ 100000) (k : Nat) (hk : k < 2) (dsub : ∀ m, m ≤ n → DoesPath q m (k + 1)) : DoesPath q (n + 1) k := by
 intro r e hrun W a pl hr ha hF
 obtain ⟨e1, h1, h2⟩ := path_run hk hrun
 obtain ⟨w1, hw1⟩ : ∃ w1, w1 = (W.alloc (.cells #[.string ⟨#[43]⟩, .string ⟨#[59]⟩] 9)).alloc (.cells #[.int .u8 21, .int .u8 22] 39) := ⟨_, rfl⟩
 have hB : Below W.heap.size W w1 := by rw [hw1]; exact below_alloc (below_alloc (Below.refl _ _) _) _
 have y0 : w1.cell? ⟨W.heap.size, k, none⟩ = some (.string (bytesB (sgP k))) := by
  have hb : w1.heap[W.heap.size]? = some (.cells #[.string ⟨#[43]⟩, .string ⟨#[59]⟩] 9 (0, 0)) := by rw [hw1]; exact blk_alloc (blk_new _ _) _
  match k, hk with
  | 0, _ => exact (blk_cell hb 0).trans rfl
  | 1, _ => exact (blk_cell hb 1).trans rfl
 have y1 : w1.cell? ⟨W.heap.size + 1, k, none⟩ = some (.int .u8 (opP k)) := by
  have hb : w1.heap[W.heap.size + 1]? = some (.cells #[.int .u8 21, .int .u8 22] 39 (0, 0)) := by rw [hw1]; exact blk_new_at (by simp)
  match k, hk with
  | 0, _ => exact (blk_cell hb 0).trans rfl
  | 1, _ => exact (blk_cell hb 1).trans rfl
 have HQ := Aside0.mk hq
 have hlt : q.g < W.heap.size := blk_lt hF.1
 have HW1 := Aside0.mk (show q.g < w1.heap.size ∧ W.heap.size ≠ q.g ∧ W.heap.size + 1 ≠ q.g from ⟨Nat.lt_of_lt_of_le hlt hB.size, by omega, by omega⟩)
 have HD := Aside0.mk (dsub n (Nat.le_refl _) r e1 h1 w1 a pl hr ha (hF.keep hq hB))
 have HJ : Aside0 (∀ e2 w2, Told2 q w1 pl r n e1 e2 w2 → ∃ v, e2 = .returned v ∧ PaJ q w1 pl r e n k n v w2) := ⟨fun e2 w2 ht => by
  rcases h2 with ⟨er, p, rfl, rfl⟩ | ⟨r1, rfl, hm⟩
  ·obtain ⟨v, l, a', hv, hl2, her, hh⟩ := ht
   exact ⟨v, hv, l, a', er, p, hh, .inr ⟨her, rfl, by omega⟩⟩
  ·obtain ⟨v, l, a', hv, ho, hws, ha', hl2, hh⟩ := ht
   exact ⟨v, hv, l, a', 0, pl, hh, .inl ⟨rfl, rfl, r1, hm, hws, ha', ho, run_slim _ _ _ _ _ _ h1⟩⟩⟩
 have HNX := Aside0.mk dsub
 have HB := Aside0.mk hB
 have HN := Aside0.mk (show n ≤ 100000 ∧ k < 2 ∧ r.ws = q.ws.drop a from ⟨hn, hk, hr⟩)
 have hsg : Aside0 (sgP k ≠ []) := ⟨sgP_ne k⟩
 have Y := Aside0.mk (show _ ∧ _ from ⟨y0, y1⟩)
 have c2 : ((k : Int) == 2) = false := beq_eq_false_iff_ne.2 (by omega)
 have p1 := eq_true (show (0 : Int) ≤ (k : Int) by omega)
 have p2 := eq_true hk
 have p3 := eq_true (show (k : Int) < 2 by omega)
 have hwk2 : IntKind.i64.wrap ((k : Int) + 1) = ((k + 1 : Nat) : Int) := by rw [i64_w]; exact w64_succ (by omega)
 clear hq hF dsub hn hrun hk h1 h2 hr hB hlt y0 y1
 show Calls Tryz.prog 51 _ W _
 go_enter Tryz.func51, Tryz.ntmps51
 go_wp2_with (go_at_call 51; rw [← hw1]; refine HD.out.mono ?_; intro e2 w2 ht; obtain ⟨v, rfl, hj⟩ := HJ.out _ _ ht; have HJ2 := Aside0.mk hj; clear ht hj HD HJ)
 clear hw1
 go_loopg [8] n (fun kq v8 w' => ∃ (vo : Value) (wq : World), vo = v8 ∧ wq = w' ∧ Aside0 (PaJ q w1 pl r e n k kq vo wq))
 case atStart => exact ⟨_, _, rfl, rfl, HJ2⟩
 case round =>
  clear HJ2
  obtain ⟨vo, wq, hvo, hwq, hrel⟩ := hrel
  subst hvo
  subst hwq
  obtain ⟨l, a', er', pl', hh, hst⟩ := hrel.out
  clear hrel
  have HH := Aside0.mk hh
  have HST := Aside0.mk hst
  have HI := Aside0.mk (fun nd => is_calls q HQ.out (wq.drewN nd) a' er' pl' (sgP k) hsg.out (hh.2.1.drewN nd))
  have y0 := keep_cell hh.2.2 Y.out.1 HW1.out.2.1
  have y1 := keep_cell hh.2.2 Y.out.2 HW1.out.2.2
  have d1 : wq.cell? ⟨q.g, 1, none⟩ = some (.int .i64 (a' : Int)) := (blk_cell hh.2.1.1 1).trans rfl
  have f1 := blk_frozen hh.2.1.1 1
  clear hh hst
  by_cases he : er' = 0
  ·subst he
   obtain ⟨rfl, rc, hm, hws, ha2, hout, hsz⟩ : pl' = pl ∧ ∃ rc, MoreP q n k gk rc e ∧ rc.ws = q.ws.drop a' ∧ a' ≤ q.ws.length ∧ rc.out = r.out ++ l ∧ rc.size ≤ r.size := by
    rcases HST.out with ⟨_, h1, h2⟩ | ⟨h, _⟩
    ·exact ⟨h1, h2⟩
    ·exact absurd rfl h
   have hlen := out_len HQ.out HN.out.2.2 hout hsz
   have HS := Aside0.mk (show l.length ≤ 4096 ∧ rc.ws = q.ws.drop a' ∧ a' ≤ q.ws.length ∧ rc.out = r.out ++ l ∧ rc.size ≤ r.size from ⟨hlen, hws, ha2, hout, hsz⟩)
   have hnx := next_drop hws
   clear HST hlen hws ha2 hout hsz
   cases hm with
   | stop hop =>
    have e0 : isB q a' 0 (sgP k) = false := by unfold isB; rw [decide_eq_false (fun h => hop (hnx.trans h))]; rfl
    rw [e0] at HI
    clear hop hnx e0
    go_wp2_with (go_at_call 67; refine (HI.out 0).mono ?_; rintro e3 w3 ⟨rfl, ⟨nd, rfl⟩⟩; have HH2 := Aside0.mk ((HH.out.drewN 0).drewN nd))
    go_ret
    exact ⟨vo, l, a', rfl, HS.out.2.2.2.1, HS.out.2.1, HS.out.2.2.1, HS.out.1, HH2.out.low (KeepBut.of_below HB.out _ _)⟩
   | @fail m m' _ er p hop hm' hr1 =>
    have HM := Aside0.mk hm'
    have e0 : isB q a' 0 (sgP k) = true := by unfold isB; rw [decide_eq_true (hnx ▸ hop : (q.rd a').next = sgP k)]; rfl
    have HL := Aside0.mk (show a' < q.ws.length from is_lt hsg.out (hnx ▸ hop))
    have HD2 := Aside0.mk (fun w (h : Rf q w (a' + 1) 0 pl') => HNX.out m' hm' rc.pop _ hr1 w (a' + 1) pl' (pop_drop HS.out.2.1) HL.out h)
    rw [e0] at HI
    clear hop hnx hm' hr1 HNX e0
    go_wp2_with (first | (go_at_call 67; refine (HI.out 0).mono ?_; rintro e3 w3 ⟨rfl, ⟨nd, rfl⟩⟩; have HH2 := Aside0.mk (((HH.out.drewN 0).drewN nd).inc HQ.out HL.out); clear HI)  | (go_at_call 51; refine (HD2.out _ HH2.out.2.1).mono ?_; rintro e4 w4 ⟨v2, l2, a3, rfl, hl2, her, hh2⟩; have HE := Aside0.mk (And.intro hl2 her); obtain ⟨A2, c2, rfl⟩ := Kd.R_slice hh2.1; have HR2 := Aside0.mk (Kd.R_reads' hh2.1); have HH3 := Aside0.mk (HH2.out.keep hh2.2.1 hh2.2.2); clear hl2 her hh2 HD2)  | ((with_reducible refine gate_builtin (b := .append) (xs := #[.tmp 46, .tmp 50]) rfl ?_); at_builtin; refine hold_rows q HQ.out HW1.out.1 rfl (.tmp 46) (.tmp 50) rfl rfl rfl HH3.out HR2.out.2.2 (by have := HS.out.1; have := HE.out.1; have := HN.out.1; have := HM.out; omega) ?_; intro v5 w5 hh5 hg5; have HH5 := Aside0.mk hh5; have z1 := keep_cell hh5.2.2 Y.out.2 HW1.out.2.2; clear hh5 hg5 HH3)  | ((with_reducible refine gate_builtin (b := .append) (xs := #[.tmp 52, .tmp 58]) rfl ?_); at_builtin; refine hold_append q HQ.out HW1.out.1 (⟨opP k, 0⟩ : Tk) rfl (.tmp 52) (.tmp 58) rfl rfl rfl HH5.out (by rw [List.length_append]; have := HS.out.1; have := HE.out.1; have := HN.out.1; have := HM.out; omega) ?_; intro v6 w6 hh6 hg6; have HH6 := Aside0.mk hh6; clear hh6 hg6))
    go_roundg m
    case measure => exact Nat.lt_succ_self _
    case rel => exact ⟨_, _, rfl, rfl, ⟨_, a3, er, p, HH6.out, .inr ⟨HE.out.2, rfl, by simp only [List.length_append, List.length_cons, List.length_nil]; have := HS.out.1; have := HE.out.1; have := HM.out; omega⟩⟩⟩
   | @next m m' _ r1 _ hop hm' hr1 hmore =>
    have HM := Aside0.mk hm'
    have e0 : isB q a' 0 (sgP k) = true := by unfold isB; rw [decide_eq_true (hnx ▸ hop : (q.rd a').next = sgP k)]; rfl
    have HL := Aside0.mk (show a' < q.ws.length from is_lt hsg.out (hnx ▸ hop))
    have HD2 := Aside0.mk (fun w (h : Rf q w (a' + 1) 0 pl') => HNX.out m' hm' rc.pop _ hr1 w (a' + 1) pl' (pop_drop HS.out.2.1) HL.out h)
    have HZ := Aside0.mk (show MoreP q n k m (r1.put (opP k)) e ∧ (r1.put (opP k)).size ≤ r.size from ⟨hmore, by
     have h1 := run_slim _ _ _ _ _ _ hr1
     have h2 := pop_one (r := rc) (by have h9 := congrArg List.length HS.out.2.1; rw [List.length_drop] at h9; have := HL.out; omega)
     have h3 := HS.out.2.2.2.2
     rw [put_one]
     omega⟩)
    clear hmore
    rw [e0] at HI
    clear hop hnx hm' hr1 HNX e0
    go_wp2_with (first | (go_at_call 67; refine (HI.out 0).mono ?_; rintro e3 w3 ⟨rfl, ⟨nd, rfl⟩⟩; have HH2 := Aside0.mk (((HH.out.drewN 0).drewN nd).inc HQ.out HL.out); clear HI)  | (go_at_call 51; refine (HD2.out _ HH2.out.2.1).mono ?_; rintro e4 w4 ⟨v2, l2, a3, rfl, ho2, hws2, ha3, hl2, hh2⟩; have HE := Aside0.mk (show l2.length ≤ 4096 ∧ r1.out = rc.out ++ l2 ∧ r1.ws = q.ws.drop a3 ∧ a3 ≤ q.ws.length from ⟨hl2, ho2, hws2, ha3⟩); obtain ⟨A2, c2, rfl⟩ := Kd.R_slice hh2.1; have HR2 := Aside0.mk (Kd.R_reads' hh2.1); have HH3 := Aside0.mk (HH2.out.keep hh2.2.1 hh2.2.2); clear hl2 ho2 hws2 ha3 hh2 HD2)  | ((with_reducible refine gate_builtin (b := .append) (xs := #[.tmp 46, .tmp 50]) rfl ?_); at_builtin; refine hold_rows q HQ.out HW1.out.1 rfl (.tmp 46) (.tmp 50) rfl rfl rfl HH3.out HR2.out.2.2 (by have := HS.out.1; have := HE.out.1; have := HN.out.1; have := HM.out; omega) ?_; intro v5 w5 hh5 hg5; have HH5 := Aside0.mk hh5; have z1 := keep_cell hh5.2.2 Y.out.2 HW1.out.2.2; clear hh5 hg5 HH3)  | ((with_reducible refine gate_builtin (b := .append) (xs := #[.tmp 52, .tmp 58]) rfl ?_); at_builtin; refine hold_append q HQ.out HW1.out.1 (⟨opP k, 0⟩ : Tk) rfl (.tmp 52) (.tmp 58) rfl rfl rfl HH5.out (by rw [List.length_append]; have := HS.out.1; have := HE.out.1; have := HN.out.1; have := HM.out; omega) ?_; intro v6 w6 hh6 hg6; have HH6 := Aside0.mk hh6; clear hh6 hg6))
    go_roundg m
    case measure => exact Nat.lt_succ_self _
    case rel => exact ⟨_, _, rfl, rfl, ⟨_, a3, 0, pl', HH6.out, .inl ⟨rfl, rfl, r1.put (opP k), HZ.out.1, HE.out.2.2.1, HE.out.2.2.2, by show r1.out ++ [(⟨opP k, 0⟩ : Tk)] = _; rw [HE.out.2.1, HS.out.2.2.2.1]; simp only [List.append_assoc], HZ.out.2⟩⟩⟩
  ·obtain ⟨rfl, hl⟩ : e = .stop er' pl' ∧ l.length ≤ 5000 * (n + 1) := by
    rcases HST.out with ⟨h, _⟩ | ⟨_, h, h2⟩
    ·exact absurd h he
    ·exact ⟨h, h2⟩
   have e0 : isB q a' er' (sgP k) = false := by unfold isB; rw [decide_eq_false he]; rfl
   rw [e0] at HI
   have HE : Aside0 (er' ≠ 0 ∧ l.length ≤ 5000 * (n + 1)) := ⟨he, hl⟩
   clear HST hl he e0
   go_wp2_with (go_at_call 67; refine (HI.out 0).mono ?_; rintro e3 w3 ⟨rfl, ⟨nd, rfl⟩⟩; have HH2 := Aside0.mk ((HH.out.drewN 0).drewN nd))
   go_ret
   exact ⟨_, l, a', rfl, HE.out.2, HE.out.1, HH2.out.low (KeepBut.of_below HB.out _ _)⟩
def StJ (q : Rc) (W1 : World) (pl : Int) (r : Rd) (e : End) (n kq : Nat) (v : Value) (w' : World) : Prop := ∃ l a' er' pl', Hold q W1 w' v l a' er' pl' ∧
 ((er' = 0 ∧ pl' = pl ∧ ∃ rc, run q.names q.last kq .stars rc = some e ∧ rc.ws = q.ws.drop a' ∧ a' ≤ q.ws.length ∧ rc.out = r.out ++ l ∧ rc.size ≤ r.size) ∨ (er' ≠ 0 ∧ e = .stop er' pl' ∧ l.length ≤ 5000 * (n + 1)))
set_option maxHeartbeats 8000000 in
set_option maxRecDepth 100000 in
theorem star2_does (q : Rc) (hq : q.ok) (n : Nat) (hn : n ≤ 100000) (dsub : DoesBare q n) : DoesPath q (n + 1) 2 := by
 intro r e hrun W a pl hr ha hF
 have h0 : thenDo (run q.names q.last n .bare r) (run q.names q.last n .stars) = some e := by rw [show ntP 2 = .star from rfl, run] at hrun; exact hrun
 obtain ⟨e1, h1, h2⟩ : ∃ e1, run q.names q.last n .bare r = some e1 ∧ ((∃ er p, e1 = .stop er p ∧ e = .stop er p) ∨ ∃ r1, e1 = .go r1 ∧ run q.names q.last n .stars r1 = some e) := by
  cases h1 : run q.names q.last n .bare r with
  | none => rw [h1] at h0; cases h0
  | some e1 =>
   rw [h1] at h0
   cases e1 with
   | stop er p => cases h0; exact ⟨_, rfl, .inl ⟨er, p, rfl, rfl⟩⟩
   | go r1 => exact ⟨_, rfl, .inr ⟨r1, rfl, h0⟩⟩
 have HQ := Aside0.mk hq
 have hlt : q.g < W.heap.size := blk_lt hF.1
 have HW1 := Aside0.mk hlt
 have HD := Aside0.mk (dsub r e1 h1 W a pl hr ha hF)
 have HJ : Aside0 (∀ e2 w2, Told2 q W pl r n e1 e2 w2 → ∃ v, e2 = .returned v ∧ StJ q W pl r e n n v w2) := ⟨fun e2 w2 ht => by
  rcases h2 with ⟨er, p, rfl, rfl⟩ | ⟨r1, rfl, hm⟩
  ·obtain ⟨v, l, a', hv, hl2, her, hh⟩ := ht
   exact ⟨v, hv, l, a', er, p, hh, .inr ⟨her, rfl, by omega⟩⟩
  ·obtain ⟨v, l, a', hv, ho, hws, ha', hl2, hh⟩ := ht
   exact ⟨v, hv, l, a', 0, pl, hh, .inl ⟨rfl, rfl, r1, hm, hws, ha', ho, run_slim _ _ _ _ _ _ h1⟩⟩⟩
 have HN := Aside0.mk (show n ≤ 100000 ∧ r.ws = q.ws.drop a from ⟨hn, hr⟩)
 clear hq hF dsub hn hrun h0 h1 h2 hr hlt
 show Calls Tryz.prog 51 #[.pointer (some ⟨q.g, 0, none⟩), .int .i64 2] W _
 go_enter Tryz.func51, Tryz.ntmps51
 go_wp2_with (go_at_call 66; refine HD.out.mono ?_; intro e2 w2 ht; obtain ⟨v, rfl, hj⟩ := HJ.out _ _ ht; have HJ2 := Aside0.mk hj; clear ht hj HD HJ)
 go_loopg [5] n (fun kq v8 w' => ∃ (vo : Value) (wq : World), vo = v8 ∧ wq = w' ∧ Aside0 (StJ q W pl r e n kq vo wq))
 case atStart => exact ⟨_, _, rfl, rfl, HJ2⟩
 case round =>
  clear HJ2
  obtain ⟨vo, wq, hvo, hwq, hrel⟩ := hrel
  subst hvo
  subst hwq
  obtain ⟨l, a', er', pl', hh, hst⟩ := hrel.out
  clear hrel
  have HH := Aside0.mk hh
  have HST := Aside0.mk hst
  have HI := Aside0.mk (fun nd => is_calls q HQ.out (wq.drewN nd) a' er' pl' [42] (by decide) (hh.2.1.drewN nd))
  have d1 : wq.cell? ⟨q.g, 1, none⟩ = some (.int .i64 (a' : Int)) := (blk_cell hh.2.1.1 1).trans rfl
  have f1 := blk_frozen hh.2.1.1 1
  clear hh hst
  by_cases he : er' = 0
  ·subst he
   obtain ⟨rfl, rc, hm, hws, ha2, hout, hsz⟩ : pl' = pl ∧ ∃ rc, run q.names q.last gk .stars rc = some e ∧ rc.ws = q.ws.drop a' ∧ a' ≤ q.ws.length ∧ rc.out = r.out ++ l ∧ rc.size ≤ r.size := by
    rcases HST.out with ⟨_, h1, h2⟩ | ⟨h, _⟩
    ·exact ⟨h1, h2⟩
    ·exact absurd rfl h
   have hlen := out_len HQ.out HN.out.2 hout hsz
   have HS := Aside0.mk (show l.length ≤ 4096 ∧ rc.ws = q.ws.drop a' ∧ a' ≤ q.ws.length ∧ rc.out = r.out ++ l ∧ rc.size ≤ r.size from ⟨hlen, hws, ha2, hout, hsz⟩)
   have hnx := next_drop hws
   clear HST hlen hws ha2 hout hsz
   cases gk with
   | zero => rw [run] at hm; cases hm
   | succ m =>
    rw [run] at hm
    by_cases hop : rc.next = [42]
    ·rw [if_pos hop] at hm
     have e0 : isB q a' 0 [42] = true := by unfold isB; rw [decide_eq_true (hnx ▸ hop : (q.rd a').next = [42])]; rfl
     have HL := Aside0.mk (show a' < q.ws.length from is_lt (s := [42]) (by decide) (hnx ▸ hop))
     have HZ := Aside0.mk (show run q.names q.last m .stars (rc.pop.put 23) = some e ∧ (rc.pop.put 23).size ≤ r.size from ⟨hm, by
      have h2 := pop_one (r := rc) (by have h9 := congrArg List.length HS.out.2.1; rw [List.length_drop] at h9; have := HL.out; omega)
      have h3 := HS.out.2.2.2.2
      rw [put_one]
      omega⟩)
     rw [e0] at HI
     clear hop hnx hm e0
     go_wp2_with (first | (go_at_call 67; refine (HI.out 0).mono ?_; rintro e3 w3 ⟨rfl, ⟨nd, rfl⟩⟩; have HH2 := Aside0.mk (((HH.out.drewN 0).drewN nd).inc HQ.out HL.out); clear HI) | ((with_reducible refine gate_builtin (b := .append) (xs := #[.tmp 22, .tmp 24]) rfl ?_); at_builtin; refine hold_append q HQ.out HW1.out (⟨23, 0⟩ : Tk) rfl (.tmp 22) (.tmp 24) rfl rfl rfl HH2.out (by have := HS.out.1; omega) ?_; intro v6 w6 hh6 hg6; have HH6 := Aside0.mk hh6; clear hh6 hg6))
     go_roundg m
     case measure => exact Nat.lt_succ_self _
     case rel => exact ⟨_, _, rfl, rfl, ⟨_, a' + 1, 0, pl', HH6.out, .inl ⟨rfl, rfl, rc.pop.put 23, HZ.out.1, pop_drop HS.out.2.1, HL.out, by show rc.out ++ [(⟨23, 0⟩ : Tk)] = _; rw [HS.out.2.2.2.1, List.append_assoc], HZ.out.2⟩⟩⟩
    ·rw [if_neg hop] at hm
     obtain rfl : e = .go rc := by cases hm; rfl
     have e0 : isB q a' 0 [42] = false := by unfold isB; rw [decide_eq_false (fun h => hop (hnx.trans h))]; rfl
     rw [e0] at HI
     clear hop hnx e0 hm
     go_wp2_with (go_at_call 67; refine (HI.out 0).mono ?_; rintro e3 w3 ⟨rfl, ⟨nd, rfl⟩⟩; have HH2 := Aside0.mk ((HH.out.drewN 0).drewN nd))
     go_ret
     exact ⟨vo, l, a', rfl, HS.out.2.2.2.1, HS.out.2.1, HS.out.2.2.1, HS.out.1, HH2.out⟩
  ·obtain ⟨rfl, hl⟩ : e = .stop er' pl' ∧ l.length ≤ 5000 * (n + 1) := by
    rcases HST.out with ⟨h, _⟩ | ⟨_, h, h2⟩
    ·exact absurd h he
    ·exact ⟨h, h2⟩
   have e0 : isB q a' er' [42] = false := by unfold isB; rw [decide_eq_false he]; rfl
   rw [e0] at HI
   have HE : Aside0 (er' ≠ 0 ∧ l.length ≤ 5000 * (n + 1)) := ⟨he, hl⟩
   clear HST hl he e0
   go_wp2_with (go_at_call 67; refine (HI.out 0).mono ?_; rintro e3 w3 ⟨rfl, ⟨nd, rfl⟩⟩; have HH2 := Aside0.mk ((HH.out.drewN 0).drewN nd))
   go_ret
   exact ⟨_, l, a', rfl, HE.out.2, HE.out.1, HH2.out⟩
def putE (o : Int) : End → End
 | .go r => .go (r.put o)
 | .stop a b => .stop a b
def wantE2 (last : Int) (s : Bs) : End → End
 | .go r => if r.next = s then .go r.pop else r.fail last 150
 | .stop a b => .stop a b
/-- Where the reader stands, and what tokens there are, when a method has come so far. -/
def Mid (q : Rc) (pl : Int) (r : Rd) (b : Nat) (e : End) (l : List Tk) (a : Nat) (er p : Int) : Prop :=
 (er = 0 ∧ p = pl ∧ ∃ r1, e = .go r1 ∧ r1.out = r.out ++ l ∧ r1.ws = q.ws.drop a ∧ a ≤ q.ws.length ∧ r1.size ≤ r.size) ∨ (er ≠ 0 ∧ e = .stop er p ∧ l.length ≤ b)
theorem told_mid {q : Rc} {W w2 : World} {pl : Int} {r : Rd} {n : Nat} {nt : Nt} {e1 : End} {e2 : Ending} (hr : run q.names q.last n nt r = some e1) (h : Told2 q W pl r n e1 e2 w2) : ∃ v l a er p, e2 = .returned v ∧ Hold q W w2 v l a er p ∧ Mid q pl r (5000 * n) e1 l a er p := by
 cases e1 with
 | go r1 =>
  obtain ⟨v, l, a', hv, ho, hws, ha', hl2, hh⟩ := h
  exact ⟨v, l, a', 0, pl, hv, hh, .inl ⟨rfl, rfl, r1, rfl, ho, hws, ha', run_slim _ _ _ _ _ _ hr⟩⟩
 | stop er p =>
  obtain ⟨v, l, a', hv, hl2, her, hh⟩ := h
  exact ⟨v, l, a', er, p, hv, hh, .inr ⟨her, rfl, hl2⟩⟩
theorem mid_told {q : Rc} {W w2 : World} {pl : Int} {r : Rd} {n b a0 : Nat} {e : End} {v : Value} {l : List Tk} {a : Nat} {er p : Int} (hq : q.ok) (hr : r.ws = q.ws.drop a0) (hb : b ≤ 5000 * n) (hh : Hold q W w2 v l a er p) (h : Mid q pl r b e l a er p) : Told2 q W pl r n e (.returned v) w2 := by
 rcases h with ⟨rfl, rfl, r1, rfl, ho, hws, ha', hs⟩ | ⟨her, rfl, hl⟩
 ·exact ⟨v, l, a, rfl, ho, hws, ha', out_len hq hr ho hs, hh⟩
 ·exact ⟨v, l, a, rfl, by omega, her, hh⟩
theorem mid_len {q : Rc} {pl : Int} {r : Rd} {b a0 : Nat} {e : End} {l : List Tk} {a : Nat} {er p : Int} (hq : q.ok) (hr : r.ws = q.ws.drop a0) (h : Mid q pl r b e l a er p) : l.length ≤ b + 4096 := by
 rcases h with ⟨rfl, rfl, r1, rfl, ho, hws, ha', hs⟩ | ⟨her, rfl, hl⟩
 ·have := out_len hq hr ho hs; omega
 ·omega
theorem mid_want {q : Rc} {pl : Int} {r : Rd} {b a0 : Nat} {e : End} {l : List Tk} {a : Nat} {er p : Int} {s : Bs} (hq : q.ok) (hr : r.ws = q.ws.drop a0) (hs : s ≠ []) (h : Mid q pl r b e l a er p) (hb : 4096 ≤ b) : Mid q pl r b (wantE2 q.last s e) l (wantA q a er s) (wantEr q a er s) (wantPl q a er p s) := by
 rcases h with ⟨rfl, rfl, r1, rfl, ho, hws, ha', hsz⟩ | ⟨her, rfl, hl⟩
 ·have hn := next_drop hws
  by_cases hx : r1.next = s
  ·have h1 : isB q a 0 s = true := by unfold isB; rw [decide_eq_true (hn ▸ hx : (q.rd a).next = s)]; rfl
   have h2 : a < q.ws.length := is_lt hs (hn ▸ hx)
   have h3 := pop_size r1
   refine .inl ⟨by unfold wantEr; rw [if_pos rfl, if_pos (hn ▸ hx)], by unfold wantPl; rw [if_pos rfl, if_pos (hn ▸ hx)], r1.pop, by show (if r1.next = s then End.go r1.pop else _) = _; rw [if_pos hx], ho, by unfold wantA; rw [if_pos h1]; exact pop_drop hws, by unfold wantA; rw [if_pos h1]; exact h2, by omega⟩
  ·have hx2 : ¬ (q.rd a).next = s := fun h => hx (hn.trans h)
   refine .inr ⟨by unfold wantEr; rw [if_pos rfl, if_neg hx2]; decide, ?_, ?_⟩
   ·show (if r1.next = s then End.go r1.pop else r1.fail q.last 150) = _
    unfold wantEr wantPl
    rw [if_neg hx, if_pos rfl, if_neg hx2, if_pos rfl, if_neg hx2]
    show End.stop 150 (r1.place q.last) = _
    have : r1.place q.last = (q.rd a).place q.last := by unfold Rc.rd Rd.place; rw [hws]
    rw [this]
   ·have := out_len hq hr ho hsz
    omega
 ·refine .inr ⟨by unfold wantEr; rw [if_neg her]; exact her, ?_, hl⟩
  show End.stop er p = _
  unfold wantEr wantPl
  rw [if_neg her, if_neg her]
/-- A token more: the words have paid for it. -/
theorem mid_put {q : Rc} {pl : Int} {r r0 : Rd} {b : Nat} {e : End} {l : List Tk} {a : Nat} {er p : Int} (o : Int) (hr : r0.out = r.out) (hz : r.size + 1 ≤ r0.size) (h : Mid q pl r b e l a er p) : Mid q pl r0 (b + 1) (putE o e) (l ++ [(⟨o, 0⟩ : Tk)]) a er p := by
 rcases h with ⟨rfl, rfl, r1, rfl, ho, hws, ha', hs⟩ | ⟨her, rfl, hl⟩
 ·exact .inl ⟨rfl, rfl, r1.put o, rfl, by show r1.out ++ [(⟨o, 0⟩ : Tk)] = _; rw [ho, hr, List.append_assoc], hws, ha', by rw [put_one]; omega⟩
 ·exact .inr ⟨her, rfl, by rw [List.length_append]; show l.length + 1 ≤ b + 1; omega⟩
theorem mid_up {q : Rc} {pl : Int} {r r0 : Rd} {b c : Nat} {e : End} {l : List Tk} {a : Nat} {er p : Int} (hr : r0.out = r.out) (hz : r.size ≤ r0.size) (hb : b ≤ c) (h : Mid q pl r b e l a er p) : Mid q pl r0 c e l a er p := by
 rcases h with ⟨rfl, rfl, r1, rfl, ho, hws, ha', hs⟩ | ⟨her, rfl, hl⟩
 ·exact .inl ⟨rfl, rfl, r1, rfl, by rw [ho, hr], hws, ha', by omega⟩
 ·exact .inr ⟨her, rfl, by omega⟩
theorem run_pos {names : List ByteArray} {last : Int} {n : Nat} {nt : Nt} {r : Rd} {e : End} (h : run names last n nt r = some e) : 1 ≤ n := by
 cases n with
 | zero => rw [run] at h; cases h
 | succ n => omega
theorem then_want {x : Option End} {last : Int} {s : Bs} {f : Rd → Option End} {e : End} (h : thenDo x (fun r => r.want last s f) = some e) : ∃ e1, x = some e1 ∧ thenDo (some (wantE2 last s e1)) f = some e := by
 cases x with
 | none => cases h
 | some e1 =>
  refine ⟨e1, rfl, ?_⟩
  cases e1 with
  | stop a b => exact h
  | go r =>
   have h2 : (if r.next = s then f r.pop else some (r.fail last 150)) = some e := h
   show thenDo (some (if r.next = s then End.go r.pop else r.fail last 150)) f = some e
   by_cases hn : r.next = s
   ·rw [if_pos hn] at h2 ⊢; exact h2
   ·rw [if_neg hn] at h2 ⊢; exact h2
theorem then_put {e1 : End} {o : Int} {e : End} (h : thenDo (some e1) (fun r => some (.go (r.put o))) = some e) : e = putE o e1 := by
 cases e1 with
 | stop a b => cases h; rfl
 | go r => cases h; rfl
theorem then_id {e1 e : End} (h : thenDo (some e1) (fun r => some (.go r)) = some e) : e = e1 := by
 cases e1 with
 | stop a b => cases h; rfl
 | go r => cases h; rfl
theorem then_some {x : Option End} {f : Rd → Option End} {e : End} (h : thenDo x f = some e) : ∃ e1, x = some e1 ∧ thenDo (some e1) f = some e := by
 cases x with
 | none => cases h
 | some e1 => exact ⟨e1, rfl, h⟩
set_option maxHeartbeats 8000000 in
set_option maxRecDepth 100000 in
theorem bare2_does (q : Rc) (hq : q.ok) (n : Nat) (hn : n ≤ 100000) (d_iff : DoesAt q n 0) (d_un : DoesUnary q n) (d_plus : DoesPath q n 0) : DoesBare q (n + 1) := by
 intro r e hrun W a pl hr ha hF
 rw [run] at hrun
 have HQ := Aside0.mk hq
 have HF := Aside0.mk hF
 have HW := Aside0.mk (show q.g < W.heap.size from blk_lt hF.1)
 have hnx := next_drop hr
 have HN := Aside0.mk (show n ≤ 100000 ∧ r.ws = q.ws.drop a from ⟨hn, hr⟩)
 have hI := fun s (hs : s ≠ []) W2 (h : Rf q W2 a 0 pl) => is_calls q hq W2 a 0 pl s hs h
 have d1 : W.cell? ⟨q.g, 1, none⟩ = some (.int .i64 (a : Int)) := (blk_cell hF.1 1).trans rfl
 have f1 := blk_frozen hF.1 1
 have isT : ∀ s : Bs, r.next = s → isB q a 0 s = true := fun s h => by unfold isB; rw [decide_eq_true (hnx ▸ h : (q.rd a).next = s)]; rfl
 have isF : ∀ s : Bs, ¬ r.next = s → isB q a 0 s = false := fun s h => by unfold isB; rw [decide_eq_false (fun h2 => h (hnx.trans h2))]; rfl
 have lt : ∀ s : Bs, s ≠ [] → r.next = s → a < q.ws.length := fun s hs h => is_lt hs (hnx ▸ h)
 have rsz : a < q.ws.length → r.pop.size + 1 = r.size := fun h => pop_one (r := r) (by have h9 := congrArg List.length hr; rw [List.length_drop] at h9; omega)
 clear hF hn
 show Calls Tryz.prog 66 _ W _
 have HI1 := Aside0.mk (fun nd => is_calls q hq (W.drewN nd) a 0 pl [123] (by decide) (HF.out.drewN nd))
 have HI2 := Aside0.mk (fun nd => is_calls q hq (W.drewN nd) a 0 pl [63] (by decide) (HF.out.drewN nd))
 have HI3 := Aside0.mk (fun nd => is_calls q hq (W.drewN nd) a 0 pl [40] (by decide) (HF.out.drewN nd))
 clear hI hq
 by_cases c1 : r.next = [123]
 ·rw [if_pos c1] at hrun
  rw [isT _ c1] at HI1
  have hL := lt _ (by decide) c1
  have HL := Aside0.mk hL
  have HP := Aside0.mk (And.intro (pop_drop hr) (rsz hL))
  obtain ⟨e1, h1, h2⟩ := then_want hrun
  have HE := Aside0.mk (And.intro (then_put h2) (run_pos h1))
  have HD := Aside0.mk (fun w (h : Rf q w (a + 1) 0 pl) => d_iff r.pop e1 h1 w (a + 1) pl (pop_drop hr) hL h)
  have HR1 := Aside0.mk h1
  clear c1 hrun h1 h2 hL hnx isT isF lt rsz hr d_iff d_un d_plus HI2 HI3
  go_enter Tryz.func66, Tryz.ntmps66
  go_wp2_with (first | (go_at_call 67; refine (HI1.out 0).mono ?_; rintro e3 w3 ⟨rfl, ⟨nd1, rfl⟩⟩; have HF2 := Aside0.mk ((HF.out.drewN nd1).inc HQ.out HL.out); clear HI1) | (go_at_call 52; refine (HD.out _ HF2.out).mono ?_; intro e4 w4 ht; obtain ⟨v, l, a2, er, p, rfl, hh, hm⟩ := told_mid HR1.out ht; have HH := Aside0.mk (hh.low (((KeepG.refl q.g W).drewN _).set _)); have HM := Aside0.mk hm; clear ht hh hm) | (go_at_call 87; refine (want2_calls q HQ.out _ a2 er p [125] (by decide) HH.out.2.1).mono ?_; rintro e5 w5 ⟨rfl, hf, hk⟩; have HH2 := Aside0.mk (HH.out.keep hf hk); clear hf hk) | ((with_reducible refine gate_builtin (b := .append) (xs := #[.tmp 18, .tmp 20]) rfl ?_); at_builtin; refine hold_append q HQ.out HW.out (⟨19, 0⟩ : Tk) rfl (.tmp 18) (.tmp 20) rfl rfl rfl HH2.out (by have := mid_len HQ.out HP.out.1 HM.out; have := HN.out.1; omega) ?_; intro v6 w6 hh6 hg6; have HH3 := Aside0.mk hh6; clear hh6 hg6))
  go_ret
  rw [HE.out.1]
  exact mid_told (b := 5000 * n + 1) HQ.out HN.out.2 (by omega) HH3.out (mid_put (r := r.pop) 19 rfl (Nat.le_of_eq HP.out.2) (mid_want HQ.out HP.out.1 (by decide) HM.out (by have := HE.out.2; omega)))
 rw [if_neg c1] at hrun
 rw [isF _ c1] at HI1
 clear c1
 by_cases c1 : r.next = [63]
 ·rw [if_pos c1] at hrun
  rw [isT _ c1] at HI2
  have hL := lt _ (by decide) c1
  have HL := Aside0.mk hL
  have HP := Aside0.mk (And.intro (pop_drop hr) (rsz hL))
  obtain ⟨e1, h1, h2⟩ := then_some hrun
  have HE := Aside0.mk (And.intro (then_put h2) (run_pos h1))
  have HD := Aside0.mk (fun w (h : Rf q w (a + 1) 0 pl) => d_un r.pop e1 h1 w (a + 1) pl (pop_drop hr) hL h)
  have HR1 := Aside0.mk h1
  clear c1 hrun h1 h2 hL hnx isT isF lt rsz hr d_iff d_un d_plus HI3
  go_enter Tryz.func66, Tryz.ntmps66
  go_wp2_with (first | (go_at_call 67; refine (HI1.out 0).mono ?_; rintro e3 w3 ⟨rfl, ⟨nd1, rfl⟩⟩; clear HI1) | (go_at_call 67; refine (HI2.out _).mono ?_; rintro e3 w3 ⟨rfl, ⟨nd2, rfl⟩⟩; have HF2 := Aside0.mk ((HF.out.drewN (nd1 + nd2)).inc HQ.out HL.out); clear HI2) | (go_at_call 69; refine (HD.out _ HF2.out).mono ?_; intro e4 w4 ht; obtain ⟨v, l, a2, er, p, rfl, hh, hm⟩ := told_mid HR1.out ht; have HH := Aside0.mk (hh.low (((KeepG.refl q.g W).drewN _).set _)); have HM := Aside0.mk hm; clear ht hh hm) | ((with_reducible refine gate_builtin (b := .append) (xs := #[.tmp 32, .tmp 34]) rfl ?_); at_builtin; refine hold_append q HQ.out HW.out (⟨20, 0⟩ : Tk) rfl (.tmp 32) (.tmp 34) rfl rfl rfl HH.out (by have := mid_len HQ.out HP.out.1 HM.out; have := HN.out.1; omega) ?_; intro v6 w6 hh6 hg6; have HH3 := Aside0.mk hh6; clear hh6 hg6))
  go_ret
  rw [HE.out.1]
  exact mid_told (b := 5000 * n + 1) HQ.out HN.out.2 (by omega) HH3.out (mid_put (r := r.pop) 20 rfl (Nat.le_of_eq HP.out.2) HM.out)
 rw [if_neg c1] at hrun
 rw [isF _ c1] at HI2
 clear c1
 by_cases c1 : r.next = [40]
 ·rw [if_pos c1] at hrun
  rw [isT _ c1] at HI3
  have hL := lt _ (by decide) c1
  have HL := Aside0.mk hL
  have HP := Aside0.mk (And.intro (pop_drop hr) (rsz hL))
  obtain ⟨e1, h1, h2⟩ := then_want hrun
  have HE := Aside0.mk (And.intro (then_id h2) (run_pos h1))
  have HD := Aside0.mk (fun w (h : Rf q w (a + 1) 0 pl) => d_plus r.pop e1 h1 w (a + 1) pl (pop_drop hr) hL h)
  have HR1 := Aside0.mk h1
  clear c1 hrun h1 h2 hL hnx isT isF lt rsz hr d_iff d_un d_plus
  go_enter Tryz.func66, Tryz.ntmps66
  go_wp2_with (first | (go_at_call 67; refine (HI1.out 0).mono ?_; rintro e3 w3 ⟨rfl, ⟨nd1, rfl⟩⟩; clear HI1) | (go_at_call 67; refine (HI2.out _).mono ?_; rintro e3 w3 ⟨rfl, ⟨nd2, rfl⟩⟩; clear HI2) | (go_at_call 67; refine (HI3.out _).mono ?_; rintro e3 w3 ⟨rfl, ⟨nd3, rfl⟩⟩; have HF2 := Aside0.mk ((HF.out.drewN (nd1 + nd2 + nd3)).inc HQ.out HL.out); clear HI3) | (go_at_call 51; refine (HD.out _ HF2.out).mono ?_; intro e4 w4 ht; obtain ⟨v, l, a2, er, p, rfl, hh, hm⟩ := told_mid HR1.out ht; have HH := Aside0.mk (hh.low (((KeepG.refl q.g W).drewN _).set _)); have HM := Aside0.mk hm; clear ht hh hm) | (go_at_call 87; refine (want2_calls q HQ.out _ a2 er p [41] (by decide) HH.out.2.1).mono ?_; rintro e5 w5 ⟨rfl, hf, hk⟩; have HH2 := Aside0.mk (HH.out.keep hf hk); clear hf hk))
  go_ret
  rw [HE.out.1]
  exact mid_told (b := 5000 * n) HQ.out HN.out.2 (by omega) HH2.out (mid_up (r := r.pop) rfl (by have := HP.out.2; omega) (Nat.le_refl _) (mid_want HQ.out HP.out.1 (by decide) HM.out (by have := HE.out.2; omega)))
 rw [if_neg c1] at hrun
 rw [isF _ c1] at HI3
 obtain rfl : e = r.fail q.last 150 := by cases hrun; rfl
 have HE := Aside0.mk (show r.place q.last = (q.rd a).place q.last by unfold Rc.rd Rd.place; rw [hr])
 clear c1 hrun hnx isT isF lt rsz hr d_iff d_un d_plus
 go_enter Tryz.func66, Tryz.ntmps66
 go_wp2_with (first | (go_at_call 67; refine (HI1.out 0).mono ?_; rintro e3 w3 ⟨rfl, ⟨nd1, rfl⟩⟩; clear HI1) | (go_at_call 67; refine (HI2.out _).mono ?_; rintro e3 w3 ⟨rfl, ⟨nd2, rfl⟩⟩; clear HI2) | (go_at_call 67; refine (HI3.out _).mono ?_; rintro e3 w3 ⟨rfl, ⟨nd3, rfl⟩⟩; clear HI3) | (go_at_call 53; refine (fail_now q HQ.out _ a pl 150 (HF.out.drewN _)).mono ?_; rintro e4 w4 ⟨rfl, hf, hk⟩; have HH := Aside0.mk (Hold.nil hf (((KeepG.refl q.g W).drewN _).trans hk)); clear hf hk))
 go_ret
 show Told2 q W pl r (n + 1) (.stop 150 (r.place q.last)) _ _
 rw [HE.out]
 exact ⟨_, [], a, rfl, Nat.zero_le _, by decide, HH.out⟩
def unW : List Bs := [[33], [88], [78], [70], [71]]
def unO2 : List Int := [6, 7, 8, 9, 10]
def DoesAtom (q : Rc) (n : Nat) : Prop := DoesC q n .atom fun W P => Calls Tryz.prog 88 #[.pointer (some ⟨q.g, 0, none⟩)] W P
theorem Rf.alloc {q : Rc} {W : World} {a : Nat} {er pl : Int} (h : Rf q W a er pl) (o : Obj) : Rf q (W.alloc o) a er pl := ⟨blk_alloc h.1 o, below_alloc h.2 o⟩
theorem Hold.drew {q : Rc} {W w' : World} {v : Value} {l : List Tk} {a : Nat} {er pl : Int} (h : Hold q W w' v l a er pl) : Hold q W w'.drew v l a er pl := ⟨Kd.R_drew h.1, h.2.1.drew, h.2.2.drew⟩
theorem grown_cell {W W1 : World} {row : Option Nat} {p : Addr} {v : Value} (hc : W.cell? p = some v) (hg : W.grownBy W1 row) (hne : ∀ k, row = some k → p.block ≠ k) : W1.cell? p = some v := by
 have := hg.block p.block (World.block_lt_of_cell? W p hc) (fun e => hne _ e.symm rfl)
 simpa [World.cell?, this] using hc
theorem tok_C {W : World} {g : Nat} {o : Int} (h : W.heap[g]? = some (.cells #[.int .u8 o, .int .u8 0] 41 (0, 0))) : Kd.C k41 W (some ⟨g, 0, none⟩) 1 [(⟨o, 0⟩ : Tk)] := by
 refine ⟨rfl, by omega, fun _ => ⟨_, rfl, fun j p hj => ?_⟩⟩
 have hj0 : j = 0 := by have := (List.getElem?_eq_some_iff.1 hj).1; simp at this; exact this
 subst hj0
 have hp : (⟨o, 0⟩ : Tk) = p := by simpa using hj
 subst hp
 refine ⟨[.int .u8 o, .int .u8 0], rfl, k41_mk _ _, fun i u hu => ?_⟩
 have := blk_cell h i
 rw [show ((⟨g, 0, none⟩ : Addr).add (0 * k41.sz + i)) = ⟨g, i, none⟩ by simp [Addr.add]; omega]
 rw [this]
 simpa using hu
section
variable {P : Program} {ops : Array Oper} {o : Oper} {act : Act} {Q : Exit → Act → World → Prop} {Kc : Act → World → Prop}
/-- Tokens are appended, in a region that draws its order. -/
theorem hold_rows_step (q : Rc) (hq : q.ok) {W w' : World} (hW : q.g < W.heap.size) {v : Value} {l ys : List Tk} {aa : Nat} {er pl : Int} {A : Option Addr} {m c : Nat} (hw : Region.wanted o (yielded ops act.tmps) = true) (s x : Operand) (ho : o.op = .call { callee := .builtin .append, args := #[s, x], argTypes := #[23, 23] }) (hs : act.eval s = v) (hx : act.eval x = .slice A m c)
  (H : Hold q W w' v l aa er pl) (hy : Kd.C k41 w' A m ys) (hl : l.length + m ≤ 1000000000000) (k : ∀ v1 w1, Hold q W w1 v1 (l ++ ys) aa er pl → w'.grownBy w1 v.ownBlock → Kc (act.put o.dst v1) w1) : if Region.wanted o (yielded ops act.tmps) = true then Oper.wp Tryz.prog o act w' Kc Q else Kc (act.put o.dst undef) w' := by
 refine Kd.R_append_rows_step k41 (w0 := w') W.heap.size hw s x 23 41 (.agg #[(.int .u8 0), (.int .u8 0)]) 2 ho Tryz.underlying23 info41 rfl (by decide) (by omega) v l ys A m c (fun k => k ≠ q.g) (fun _ => False) hs hx H.1 hy (fun x cs h => by obtain rfl := k41_open h; exact k41_mkM _ _ _ x) (fun _ hk => hk.elim) ?_ (Below.refl _ _) H.2.2.1 (by omega) ?_
 ·intro k hk e
  have := rf_size H.2.1
  omega
 ·intro v1 w1 hr hb hg hat
  exact k v1 w1 (H.grow hq hW hr hg) hg
end
theorem mid_then {q : Rc} {pl : Int} {r r2 : Rd} {b : Nat} {e : End} {l l4 : List Tk} {a : Nat} {er p : Int} (hl : l.length ≤ 4096) (ho : r2.out = r.out ++ l) (hs : r2.size ≤ r.size) (h : Mid q pl r2 b e l4 a er p) : Mid q pl r (b + 4096) e (l ++ l4) a er p := by
 rcases h with ⟨rfl, rfl, r1, rfl, ho1, hws, ha', hs1⟩ | ⟨her, rfl, hl4⟩
 ·exact .inl ⟨rfl, rfl, r1, rfl, by rw [ho1, ho, List.append_assoc], hws, ha', by omega⟩
 ·exact .inr ⟨her, rfl, by rw [List.length_append]; omega⟩
theorem want_mid {q : Rc} {W w : World} {pl : Int} {r : Rd} {b a0 : Nat} {e : End} {v : Value} {l : List Tk} {a : Nat} {er p : Int} {s : Bs} (hq : q.ok) (hr : r.ws = q.ws.drop a0) (hs : s ≠ []) (hb : 4096 ≤ b) (hH : Hold q W w v l a er p) (hm : Mid q pl r b e l a er p) :
  Calls Tryz.prog 87 #[.pointer (some ⟨q.g, 0, none⟩), .string (bytesB s)] w fun e5 w5 => e5 = .returned (.tuple #[]) ∧ ∃ a3 er3 p3, Hold q W w5 v l a3 er3 p3 ∧ Mid q pl r b (wantE2 q.last s e) l a3 er3 p3 :=
 (want2_calls q hq w a er p s hs hH.2.1).mono fun e5 w5 ⟨h1, h2, h3⟩ => ⟨h1, _, _, _, hH.keep h2 h3, mid_want hq hr hs hm hb⟩
theorem unW_ne : ∀ w ∈ unW, w ≠ [] := by decide
theorem unary_run {names : List ByteArray} {last : Int} {n : Nat} {r : Rd} {e : End} (h : run names last (n + 1) .unary r = some e) :
  (∃ o e1, opL unW unO2 r.next = some o ∧ run names last n .unary r.pop = some e1 ∧ e = putE o e1) ∨
  opL unW unO2 r.next = none ∧ ((∃ s t o e1, ((s = [60] ∧ t = [62] ∧ o = 17) ∨ (s = [91] ∧ t = [93] ∧ o = 18)) ∧ r.next = s ∧ run names last n .plus r.pop = some e1 ∧ thenDo (some (wantE2 last t e1)) (fun r => thenDo (run names last n .unary r) (fun r => some (.go (r.put o)))) = some e) ∨ (r.next ≠ [60] ∧ r.next ≠ [91] ∧ run names last n .atom r = some e)) := by
 have hit : ∀ {o : Int}, thenDo (run names last n .unary r.pop) (fun r => some (.go (r.put o))) = some e → ∃ o2 e1, some o = some o2 ∧ run names last n .unary r.pop = some e1 ∧ e = putE o2 e1 := fun {o} h => by
  obtain ⟨e1, h1, h2⟩ := then_some h
  exact ⟨o, e1, rfl, h1, then_put h2⟩
 have mod : ∀ {t : Bs} {o : Int}, thenDo (run names last n .plus r.pop) (fun r => r.want last t (fun r => thenDo (run names last n .unary r) (fun r => some (.go (r.put o))))) = some e → ∃ e1, run names last n .plus r.pop = some e1 ∧ thenDo (some (wantE2 last t e1)) (fun r => thenDo (run names last n .unary r) (fun r => some (.go (r.put o)))) = some e := fun h => then_want h
 rw [run] at h
 unfold unW unO2
 have o0 : opL [] [] r.next = none := by rw [opL]; exact fun _ _ _ _ h _ => by cases h
 rw [opL, opL, opL, opL, opL, o0]
 by_cases c1 : r.next = [33]
 ·rw [if_pos c1] at h ⊢; exact .inl (hit h)
 rw [if_neg c1] at h ⊢
 by_cases c2 : r.next = [88]
 ·rw [if_pos c2] at h ⊢; exact .inl (hit h)
 rw [if_neg c2] at h ⊢
 by_cases c3 : r.next = [78]
 ·rw [if_pos c3] at h ⊢; exact .inl (hit h)
 rw [if_neg c3] at h ⊢
 by_cases c4 : r.next = [70]
 ·rw [if_pos c4] at h ⊢; exact .inl (hit h)
 rw [if_neg c4] at h ⊢
 by_cases c5 : r.next = [71]
 ·rw [if_pos c5] at h ⊢; exact .inl (hit h)
 rw [if_neg c5] at h ⊢
 refine .inr ⟨rfl, ?_⟩
 by_cases c6 : r.next = [60]
 ·rw [if_pos c6] at h
  obtain ⟨e1, h1, h2⟩ := mod h
  exact .inl ⟨_, _, _, e1, .inl ⟨rfl, rfl, rfl⟩, c6, h1, h2⟩
 rw [if_neg c6] at h
 by_cases c7 : r.next = [91]
 ·rw [if_pos c7] at h
  obtain ⟨e1, h1, h2⟩ := mod h
  exact .inl ⟨_, _, _, e1, .inr ⟨rfl, rfl, rfl⟩, c7, h1, h2⟩
 rw [if_neg c7] at h
 exact .inr ⟨c6, c7, h⟩
set_option maxHeartbeats 8000000 in
set_option maxRecDepth 100000 in
theorem unary2_does (q : Rc) (hq : q.ok) (n : Nat) (hn : n ≤ 100000) (d_un : DoesUnary q n) (d_path : DoesPath q n 0) (d_atom : DoesAtom q n) : DoesUnary q (n + 1) := by
 intro r e hrun W a pl hr ha hF
 have hrun2 := unary_run hrun
 obtain ⟨W2, hW2⟩ : ∃ W2, W2 = (W.alloc (.cells #[.string ⟨#[33]⟩, .string ⟨#[88]⟩, .string ⟨#[78]⟩, .string ⟨#[70]⟩, .string ⟨#[71]⟩] 9)).alloc (.cells #[.int .u8 6, .int .u8 7, .int .u8 8, .int .u8 9, .int .u8 10] 39) := ⟨_, rfl⟩
 have hB2 : Below W.heap.size W W2 := by rw [hW2]; exact below_alloc (below_alloc (Below.refl _ _) _) _
 have BK3 : W2.heap[W.heap.size]? = some (.cells #[.string ⟨#[33]⟩, .string ⟨#[88]⟩, .string ⟨#[78]⟩, .string ⟨#[70]⟩, .string ⟨#[71]⟩] 9 (0, 0)) := by rw [hW2]; exact blk_alloc (blk_new _ _) _
 have BK4 : W2.heap[W.heap.size + 1]? = some (.cells #[.int .u8 6, .int .u8 7, .int .u8 8, .int .u8 9, .int .u8 10] 39 (0, 0)) := by rw [hW2]; exact blk_new_at (by simp)
 have HQ := Aside0.mk hq
 have hnx := next_drop hr
 have HF := Aside0.mk (hF.keep hq hB2)
 have HK : Aside0 (KeepG q.g W W2) := ⟨KeepBut.of_below hB2 _ _⟩
 have HW := Aside0.mk (show q.g < W.heap.size from blk_lt hF.1)
 have HN := Aside0.mk (show n ≤ 100000 ∧ r.ws = q.ws.drop a from ⟨hn, hr⟩)
 have HWS : Aside0 (∀ i (h : i < unW.length), W2.cell? ⟨W.heap.size, i, none⟩ = some (.string (bytesB unW[i])) ∧ unW[i] ≠ []) := ⟨fun i h => match i, h with
  | 0, _ => ⟨(blk_cell BK3 0).trans rfl, unW_ne _ (List.getElem_mem (by assumption))⟩ | 1, _ => ⟨(blk_cell BK3 1).trans rfl, unW_ne _ (List.getElem_mem (by assumption))⟩ | 2, _ => ⟨(blk_cell BK3 2).trans rfl, unW_ne _ (List.getElem_mem (by assumption))⟩ | 3, _ => ⟨(blk_cell BK3 3).trans rfl, unW_ne _ (List.getElem_mem (by assumption))⟩ | 4, _ => ⟨(blk_cell BK3 4).trans rfl, unW_ne _ (List.getElem_mem (by assumption))⟩⟩
 have HOS : Aside0 (∀ i (h : i < unO2.length), W2.cell? ⟨W.heap.size + 1, i, none⟩ = some (.int .u8 unO2[i])) := ⟨fun i h => match i, h with
  | 0, _ => (blk_cell BK4 0).trans rfl | 1, _ => (blk_cell BK4 1).trans rfl | 2, _ => (blk_cell BK4 2).trans rfl | 3, _ => (blk_cell BK4 3).trans rfl | 4, _ => (blk_cell BK4 4).trans rfl⟩
 have isT : Aside0 (∀ s : Bs, r.next = s → isB q a 0 s = true) := ⟨fun s h => by unfold isB; rw [decide_eq_true (hnx ▸ h : (q.rd a).next = s)]; rfl⟩
 have isF : Aside0 (∀ s : Bs, ¬ r.next = s → isB q a 0 s = false) := ⟨fun s h => by unfold isB; rw [decide_eq_false (fun h2 => h (hnx.trans h2))]; rfl⟩
 have lt : Aside0 (∀ s : Bs, s ≠ [] → r.next = s → a < q.ws.length) := ⟨fun s hs h => is_lt hs (hnx ▸ h)⟩
 have rsz : Aside0 (a < q.ws.length → r.pop.size + 1 = r.size) := ⟨fun h => pop_one (r := r) (by have h9 := congrArg List.length hr; rw [List.length_drop] at h9; omega)⟩
 have HRUN := Aside0.mk hrun2
 have DU := Aside0.mk d_un
 have DP := Aside0.mk d_path
 have DA := Aside0.mk d_atom
 clear hq hF hn hr hnx hrun hrun2 hB2 BK3 BK4 d_un d_path d_atom
 show Calls Tryz.prog 69 _ W _
 go_enter Tryz.func69, Tryz.ntmps69
 go_wp2
 rw [← hW2]
 clear hW2
 go_loopg [5] 5 (fun kq v6 w' => ∃ i nd : Nat, v6 = .int .i64 (i : Int) ∧ Aside0 (i + kq = 5) ∧ Aside0 (opL (unW.drop i) (unO2.drop i) r.next = opL unW unO2 r.next) ∧ w' = W2.drewN nd)
 case atStart => exact ⟨0, 0, rfl, ⟨by omega⟩, ⟨rfl⟩, rfl⟩
 case round =>
  obtain ⟨i, nd, rfl, hi, hx, rfl⟩ := hrel
  cases gk with
  | zero =>
   have hi5 : i = 5 := by have := hi.out; omega
   subst hi5
   have hno : opL unW unO2 r.next = none := by rw [← hx.out]; show opL [] [] r.next = none; rw [opL]; exact fun _ _ _ _ h _ => by cases h
   have d1 : W2.cell? ⟨q.g, 1, none⟩ = some (.int .i64 (a : Int)) := (blk_cell HF.out.1 1).trans rfl
   have f1 := blk_frozen HF.out.1 1
   have HI6 := Aside0.mk (fun m => is_calls q HQ.out (W2.drewN m) a 0 pl [60] (by decide) (HF.out.drewN m))
   have HI7 := Aside0.mk (fun m => is_calls q HQ.out (W2.drewN m) a 0 pl [91] (by decide) (HF.out.drewN m))
   have HI8 := HI7
   rcases HRUN.out with ⟨o2, e1, h1, _⟩ | ⟨_, hmod | hat⟩
   ·rw [hno] at h1; cases h1
   ·obtain ⟨s, t, o, e1, hst, hs, h1, h2⟩ := hmod
    have hL := lt.out s (by rcases hst with ⟨rfl, _⟩ | ⟨rfl, _⟩ <;> decide) hs
    have HL := Aside0.mk hL
    have HP := Aside0.mk (And.intro (pop_drop HN.out.2) (rsz.out hL))
    have HR1 := Aside0.mk h1
    have HN1 := Aside0.mk (run_pos h1)
    have HD := Aside0.mk (fun w (h : Rf q w (a + 1) 0 pl) => DP.out r.pop e1 h1 w (a + 1) pl HP.out.1 hL h)
    have HTH := Aside0.mk h2
    have HWT := Aside0.mk (fun w v l a2 er p (hH : Hold q W w v l a2 er p) hm => want_mid (s := t) (e := e1) (pl := pl) HQ.out HP.out.1 (by rcases hst with ⟨_, rfl, _⟩ | ⟨_, rfl, _⟩ <;> decide) (b := 5000 * n) (by have := HN1.out; omega) hH hm)
    rcases hst with ⟨rfl, rfl, rfl⟩ | ⟨rfl, rfl, rfl⟩
    all_goals
     first
     | (rw [isT.out [60] hs] at HI6; rw [isF.out [91] (by rw [hs]; decide)] at HI7 HI8)
     | (rw [isF.out [60] (by rw [hs]; decide)] at HI6; rw [isT.out [91] hs] at HI7 HI8)
     clear hi hx hno hs h1 h2 hL isT isF lt rsz DP DA HRUN HWS HOS
     go_wp2_with (first | (go_at_call 67; refine (HI6.out _).mono ?_; rintro e w' ⟨rfl, ⟨n6, rfl⟩⟩; clear HI6) | (go_at_call 67; refine (HI7.out _).mono ?_; rintro e w' ⟨rfl, ⟨n7, rfl⟩⟩; clear HI7) | (go_at_call 67; refine (HI8.out _).mono ?_; rintro e w' ⟨rfl, ⟨n8, rfl⟩⟩; clear HI8) | (go_at_call 51; refine (HD.out _ ?xx).mono ?_; (case xx => exact (HF.out.drewN _).inc HQ.out HL.out); intro e4 w4 ht; obtain ⟨v, l, a2, er, p, rfl, hh, hm⟩ := told_mid HR1.out ht; have HH := Aside0.mk (hh.low ((HK.out.drewN _).set _)); have HM := Aside0.mk hm; clear ht hh hm))
     go_at_call 87
     refine (HWT.out _ _ _ _ _ _ HH.out HM.out).mono ?_
     rintro e5 w5 ⟨rfl, a3, er3, p3, hh5, hm5⟩
     have d4 : w5.cell? ⟨q.g, 4, none⟩ = some (.int .i64 er3) := (blk_cell hh5.2.1.1 4).trans rfl
     have HH5 := Aside0.mk hh5
     have HL5 := Aside0.mk (mid_len HQ.out HP.out.1 HM.out)
     clear hh5 HH HM HWT HD
     by_cases he3 : er3 = 0
     ·subst he3
      obtain ⟨rfl, r2, he2, ho2, hws2, ha2, hsz2⟩ : p3 = pl ∧ ∃ r2, wantE2 q.last _ e1 = .go r2 ∧ r2.out = r.pop.out ++ l ∧ r2.ws = q.ws.drop a3 ∧ a3 ≤ q.ws.length ∧ r2.size ≤ r.pop.size := by
       rcases hm5 with ⟨_, h1, h2⟩ | ⟨h, _⟩
       ·exact ⟨h1, h2⟩
       ·exact absurd rfl h
      have h2 := HTH.out
      rw [he2] at h2
      obtain ⟨e4, h4, h5⟩ := then_some (x := run q.names q.last n .unary r2) h2
      have HR4 := Aside0.mk h4
      have HE := Aside0.mk (then_put h5)
      have HX := Aside0.mk (And.intro (out_len HQ.out HP.out.1 ho2 hsz2) (And.intro ho2 (And.intro hsz2 hws2)))
      have HD4 := Aside0.mk (fun w (h : Rf q w a3 0 p3) => DU.out r2 e4 h4 w a3 p3 hws2 ha2 h)
      clear hm5 he2 ho2 hws2 ha2 hsz2 h2 h4 h5 HTH DU
      go_wp2_with (first | (go_at_call 69; refine (HD4.out _ HH5.out.2.1).mono ?_; intro e6 w6 ht; obtain ⟨v6, l6, a6, er6, p6, rfl, hh, hm⟩ := told_mid HR4.out ht; obtain ⟨A6, c6, rfl⟩ := Kd.R_slice hh.1; have HR6 := Aside0.mk (Kd.R_reads' hh.1); have HH6 := Aside0.mk (HH5.out.keep hh.2.1 hh.2.2); have HM6 := Aside0.mk (mid_then HX.out.1 HX.out.2.1 HX.out.2.2.1 hm); have HL6 := Aside0.mk (mid_len HQ.out HX.out.2.2.2 hm); clear ht hh hm) | ((with_reducible refine gate_builtin (b := .append) (xs := #[.tmp 64, .tmp 66]) rfl ?_); at_builtin; refine hold_rows q HQ.out HW.out rfl (.tmp 64) (.tmp 66) rfl rfl rfl HH6.out HR6.out.2.2 (by have := HL5.out; have := HL6.out; have := HN.out.1; omega) ?_; intro v7 w7 hh7 hg7; have HH7 := Aside0.mk hh7; clear hh7 hg7) | ((with_reducible refine gate_builtin (b := .append) (xs := #[.tmp 68, .tmp 71]) rfl ?_); at_builtin; refine hold_append q HQ.out HW.out (⟨_, 0⟩ : Tk) rfl (.tmp 68) (.tmp 71) rfl rfl rfl HH7.out (by rw [List.length_append]; have := HL5.out; have := HL6.out; have := HN.out.1; omega) ?_; intro v8 w8 hh8 hg8; have HH8 := Aside0.mk hh8; clear hh8 hg8))
      go_ret
      rw [HE.out]
      exact mid_told (b := 5000 * n + 4096 + 1) HQ.out HN.out.2 (by omega) HH8.out (mid_put (r := r.pop) _ rfl (Nat.le_of_eq HP.out.2) HM6.out)
     ·have c0 : (er3 == 0) = false := beq_eq_false_iff_ne.2 he3
      obtain ⟨he2, hl2⟩ : wantE2 q.last _ e1 = .stop er3 p3 ∧ l.length ≤ 5000 * n := by
       rcases hm5 with ⟨h, _⟩ | ⟨_, h1, h2⟩
       ·exact absurd h he3
       ·exact ⟨h1, h2⟩
      have h2 := HTH.out
      rw [he2] at h2
      have HE := Aside0.mk (And.intro he3 (And.intro (show e = .stop er3 p3 by cases h2; rfl) hl2))
      clear hm5 he2 h2 hl2 he3 HTH DU
      go_wp2_with ((with_reducible refine gate_builtin (b := .append) (xs := #[.tmp 68, .tmp 71]) rfl ?_); at_builtin; refine hold_append q HQ.out HW.out (⟨_, 0⟩ : Tk) rfl (.tmp 68) (.tmp 71) rfl rfl rfl HH5.out (by have := HL5.out; have := HN.out.1; omega) ?_; intro v8 w8 hh8 hg8; have HH8 := Aside0.mk hh8; clear hh8 hg8)
      go_ret
      rw [HE.out.2.1]
      exact mid_told (b := 5000 * n + 1) HQ.out HN.out.2 (by omega) HH8.out (.inr ⟨HE.out.1, rfl, by rw [List.length_append]; show l.length + 1 ≤ _; have := HE.out.2.2; omega⟩)
   ·obtain ⟨h6, h7, h8⟩ := hat
    rw [isF.out _ h6] at HI6
    rw [isF.out _ h7] at HI7
    have HD := Aside0.mk (fun w (h : Rf q w a 0 pl) => DA.out r e h8 w a pl HN.out.2 ha h)
    have HR1 := Aside0.mk h8
    clear hi hx hno h6 h7 h8 isT isF lt rsz DP DA DU HRUN HWS HOS HI8
    go_wp2_with (first | (go_at_call 67; refine (HI6.out _).mono ?_; rintro e w' ⟨rfl, ⟨n6, rfl⟩⟩; clear HI6) | (go_at_call 67; refine (HI7.out _).mono ?_; rintro e w' ⟨rfl, ⟨n7, rfl⟩⟩; clear HI7) | (go_at_call 88; refine (HD.out _ (HF.out.drewN _)).mono ?_; intro e4 w4 ht; obtain ⟨v, l, a2, er, p, rfl, hh, hm⟩ := told_mid HR1.out ht; have HH := Aside0.mk (hh.low (HK.out.drewN _)); have HM := Aside0.mk hm; clear ht hh hm))
    go_ret
    exact mid_told (b := 5000 * n) HQ.out HN.out.2 (by omega) HH.out HM.out
  | succ k1 =>
   have hil : i < 5 := by have := hi.out; omega
   obtain ⟨s, hs⟩ : ∃ s, s = unW[i] := ⟨_, rfl⟩
   obtain ⟨o, ho⟩ : ∃ o, o = unO2[i] := ⟨_, rfl⟩
   have hxx := hx.out
   rw [opL_at unW unO2 _ i hil hil, ← hs, ← ho] at hxx
   obtain ⟨e0, hne⟩ := HWS.out i hil
   rw [← hs] at e0 hne
   have o0 := HOS.out i hil
   rw [← ho] at o0
   have HI := Aside0.mk (fun m => is_calls q HQ.out (W2.drewN m) a 0 pl s hne (HF.out.drewN m))
   have c1 : decide ((i : Int) < 5) = true := decide_eq_true (by omega)
   have c2 : decide (i < 5) = true := decide_eq_true hil
   have p1 := eq_true (show (0 : Int) ≤ (i : Int) by omega)
   have p2 := eq_true hil
   have p3 := eq_true (show (i : Int) < 5 by omega)
   have hw : Aside0 (wrap64 ((i : Int) + 1) = ((i + 1 : Nat) : Int)) := ⟨by unfold wrap64; omega⟩
   have hi1 : Aside0 (i + 1 + k1 = 5) := ⟨by have := hi.out; omega⟩
   clear hi hx hs ho
   by_cases hn : r.next = s
   ·rw [if_pos hn] at hxx
    have e1 : isB q a 0 s = true := isT.out s hn
    rw [e1] at HI
    have hL := lt.out s hne hn
    have HL := Aside0.mk hL
    have HP := Aside0.mk (And.intro (pop_drop HN.out.2) (rsz.out hL))
    obtain ⟨e2, h2, h3⟩ : ∃ e2, run q.names q.last n .unary r.pop = some e2 ∧ e = putE o e2 := by
     rcases HRUN.out with ⟨o2, e2, h1, h2, h3⟩ | ⟨h1, _⟩
     ·rw [← hxx] at h1; cases h1; exact ⟨e2, h2, h3⟩
     ·rw [← hxx] at h1; cases h1
    have HE := Aside0.mk (And.intro h3 (run_pos h2))
    have HR1 := Aside0.mk h2
    have HD := Aside0.mk (fun w (h : Rf q w (a + 1) 0 pl) => DU.out r.pop e2 h2 w (a + 1) pl HP.out.1 hL h)
    have d1 : W2.cell? ⟨q.g, 1, none⟩ = some (.int .i64 (a : Int)) := (blk_cell HF.out.1 1).trans rfl
    have f1 := blk_frozen HF.out.1 1
    have n1 : W.heap.size ≠ q.g := by have := HW.out; omega
    have n2 : q.g ≠ W.heap.size := fun e => n1 e.symm
    have n3 : W.heap.size + 1 ≠ q.g := by have := HW.out; omega
    have n4 : q.g ≠ W.heap.size + 1 := fun e => n3 e.symm
    clear hxx hn e1 hL h2 h3 isT isF lt rsz DU DP DA HRUN
    go_wp2_with (first | (go_at_call 67; refine (HI.out _).mono ?_; rintro e w' ⟨rfl, ⟨nd2, rfl⟩⟩; have HF2 := Aside0.mk ((HF.out.drewN (nd + nd2)).inc HQ.out HL.out); have HK2 := Aside0.mk ((HK.out.drewN (nd + nd2)).set (.int .i64 (wrap64 ((a : Int) + 1))) (i := 1))))
    have oc3 : ((W2.drewN (nd + nd2)).setCell ⟨q.g, 1, none⟩ (.int .i64 (wrap64 ((a : Int) + 1)))).cell? ⟨W.heap.size + 1, i, none⟩ = some (.int .u8 o) := keep_cell (((KeepG.refl q.g W2).drewN (nd + nd2)).set _) o0 n3
    obtain ⟨w3, hw3⟩ : ∃ w3, w3 = (W2.drewN (nd + nd2)).setCell ⟨q.g, 1, none⟩ (.int .i64 (wrap64 ((a : Int) + 1))) := ⟨_, rfl⟩
    rw [← hw3] at HF2 HK2 oc3 ⊢
    have HG3 := Aside0.mk (blk_lt HF2.out.1)
    clear hw3 o0 d1 f1 HF HK e0 HI
    go_region_held3 (fun w' => w'.cell? ⟨W.heap.size + 1, i, none⟩ = some (.int .u8 o)) (first | assumption | go_keep) ((first | (go_at_call 69; refine (HD.out _ ?xx).mono ?_; (case xx => (with_reducible repeat (first | refine Rf.drew ?_ | refine Rf.drewN ?_ _ | refine Rf.alloc ?_ _)); exact HF2.out); intro e4 w4 ht; obtain ⟨v, l, a2, er, p, rfl, hh, hm⟩ := told_mid HR1.out ht; have HM := Aside0.mk hm; have HH := Aside0.mk (hh.low (W := W) (by (with_reducible repeat (first | refine KeepG.drew ?_ | refine KeepG.drewN ?_ _ | refine KeepG.alloc ?_ _)); exact HK2.out)); have o4 : w4.cell? ⟨W.heap.size + 1, i, none⟩ = some (.int .u8 o) := keep_cell hh.2.2 (by first | assumption | go_keep) n3; (first | have hlit := Aside0.mk (KeepBut.blk hh.2.2 (blk_new _ _) (by have := HG3.out; simp; omega) (by simp)) | have hlit := Aside0.mk (KeepBut.blk hh.2.2 (blk_drew (blk_new _ _)) (by have := HG3.out; simp; omega) (by simp)) | skip); have hb0 := Aside0.mk (fun k (hk : v.ownBlock = some k) => Kd.R_base hh.1 k hk); clear ht hh hm) | (refine hold_rows_step q HQ.out HW.out (by rfl) (.tmp 31) (.tmp 37) (l := l) (ys := [(⟨o, 0⟩ : Tk)]) (v := v) (aa := a2) (er := er) (pl := p) rfl rfl rfl ?aO ?aR ?aL ?_; (case aO => ((with_reducible repeat (first | refine Hold.drew ?_ | refine Hold.drewN ?_ _ | refine Hold.alloc ?_ _)); exact HH.out)); (case aR => (refine tok_C ?_; first | exact hlit.out | exact blk_new _ _ | exact blk_drew hlit.out | exact blk_drew (blk_new _ _))); (case aL => (have := mid_len HQ.out HP.out.1 HM.out; have := HN.out.1; omega)); intro v6 w6 hh6 hg6; have HH3 := Aside0.mk hh6; have o6 : w6.cell? ⟨W.heap.size + 1, i, none⟩ = some (.int .u8 o) := grown_cell (by first | assumption | go_keep) hg6 (fun k hk => by have h8 := hb0.out k hk; have := World.block_lt_of_cell? w3 _ oc3; simp at h8 this ⊢; omega); clear hh6 hg6)))
    all_goals go_wp2
    all_goals go_ret
    all_goals rw [HE.out.1]
    all_goals exact mid_told (b := 5000 * n + 1) HQ.out HN.out.2 (by omega) HH3.out (mid_put (r := r.pop) o rfl (Nat.le_of_eq HP.out.2) HM.out)
   ·rw [if_neg hn] at hxx
    have e1 : isB q a 0 s = false := isF.out s hn
    rw [e1] at HI
    have HX := Aside0.mk hxx
    clear hn e1 hxx isT isF lt rsz DU DP DA HRUN
    go_wp2_with (go_at_call 67; refine (HI.out _).mono ?_; rintro e w' ⟨rfl, ⟨nd2, rfl⟩⟩)
    go_roundg k1
    case measure => exact Nat.lt_succ_self _
    case rel => exact ⟨i + 1, _, by first | rfl | (show Value.int .i64 (wrap64 _) = _; rw [hw.out]), hi1, HX, rfl⟩
def atW : List Bs := [[116, 114, 117, 101], [102, 97, 108, 115, 101], [108, 97, 115, 116]]
def atO : List Int := [0, 1, 3]
theorem atW_ne : ∀ w ∈ atW, w ≠ [] := by decide
theorem Hold.lit {q : Rc} {W w : World} {a : Nat} {er pl : Int} (p : Tk) (h : Rf q w a er pl) (hk : KeepG q.g W w) {g0 : Nat} (hg0 : g0 = w.heap.size := by first | rfl | simp) : Hold q W (w.alloc (.cells #[.int .u8 p.f0, .int .u8 p.f1] 41)) (.slice (some ⟨g0, 0, none⟩) 1 1) [p] a er pl := by
 subst hg0
 refine ⟨⟨fun k hk2 => ?_, [.int .u8 p.f0, .int .u8 p.f1], ?_, ?_⟩, h.alloc _, hk.alloc _⟩
 ·have h1 : w.heap.size = k := by simpa [Value.ownBlock] using hk2
  have := rf_size h
  show k ≠ q.g
  omega
 ·exact World.ownsRow_lit (base := W.heap.size) (e := 41) (size := 2) w #[.int .u8 p.f0, .int .u8 p.f1] 1 hk.1 (by simp [maxLen]) (by simp)
 ·exact Reps.snoc (Reps.none _ _) (k41_mkM _ _ _ p) rfl
theorem atom_run {names : List ByteArray} {last : Int} {n : Nat} {r : Rd} {e : End} (h : run names last (n + 1) .atom r = some e) :
  (∃ o, opL atW atO r.next = some o ∧ e = .go (r.put o).pop) ∨ opL atW atO r.next = none ∧ ((r.next = [40] ∧ ∃ e1, run names last n .iff r.pop = some e1 ∧ e = wantE2 last [41] e1) ∨ (r.next ≠ [40] ∧ r.name names last = some e)) := by
 have hit : ∀ {o : Int}, some (End.go (r.put o).pop) = some e → ∃ o2, some o = some o2 ∧ e = .go (r.put o2).pop := fun {o} h => ⟨o, rfl, (Option.some.inj h).symm⟩
 rw [run] at h
 unfold atW atO
 have o0 : opL [] [] r.next = none := by rw [opL]; exact fun _ _ _ _ h _ => by cases h
 rw [opL, opL, opL, o0]
 by_cases c1 : r.next = [116, 114, 117, 101]
 ·rw [if_pos c1] at h ⊢; exact .inl (hit h)
 rw [if_neg c1] at h ⊢
 by_cases c2 : r.next = [102, 97, 108, 115, 101]
 ·rw [if_pos c2] at h ⊢; exact .inl (hit h)
 rw [if_neg c2] at h ⊢
 by_cases c3 : r.next = [108, 97, 115, 116]
 ·rw [if_pos c3] at h ⊢; exact .inl (hit h)
 rw [if_neg c3] at h ⊢
 refine .inr ⟨rfl, ?_⟩
 by_cases c4 : r.next = [40]
 ·rw [if_pos c4] at h
  obtain ⟨e1, h1, h2⟩ := then_want h
  exact .inl ⟨c4, e1, h1, then_id h2⟩
 rw [if_neg c4] at h
 exact .inr ⟨c4, h⟩
theorem name2_cases {q : Rc} {r : Rd} {a : Nat} {e : End} (hr : r.ws = q.ws.drop a) (hne : ∀ w ∈ q.ws, w.f1.data.toList ≠ []) (h : r.name q.names q.last = some e) :
  (¬ a < q.ws.length ∧ e = r.fail q.last 150) ∨ ∃ h : a < q.ws.length, (q.ws[a].f0 ≠ 2 ∧ e = r.fail q.last 150) ∨ (q.ws[a].f0 = 2 ∧ ((placeOf q.names r.next = none ∧ e = r.fail q.last 6) ∨ ∃ i, placeOf q.names r.next = some i ∧ e = .go (⟨r.ws, r.out ++ [⟨2, (i : Int)⟩]⟩ : Rd).pop)) := by
 by_cases ha : a < q.ws.length
 ·refine .inr ⟨ha, ?_⟩
  have hw : r.ws = q.ws[a] :: q.ws.drop (a + 1) := by rw [hr, List.drop_eq_getElem_cons ha]
  have hn : r.next = q.ws[a].f1.data.toList := by unfold Rd.next; rw [hw]
  have h0 := hne _ (List.getElem_mem ha)
  rw [hn]
  unfold Rd.name at h
  rw [hw] at h
  simp only at h
  by_cases h2 : q.ws[a].f0 = 2
  ·rw [if_neg (by rw [not_or]; exact ⟨h0, fun h => h h2⟩)] at h
   refine .inr ⟨h2, ?_⟩
   cases hp : placeOf q.names q.ws[a].f1.data.toList with
   | none => rw [hp] at h; exact .inl ⟨rfl, (Option.some.inj h).symm⟩
   | some i => rw [hp] at h; exact .inr ⟨i, rfl, by rw [hw]; exact (Option.some.inj h).symm⟩
  ·rw [if_pos (.inr h2)] at h
   exact .inl ⟨h2, (Option.some.inj h).symm⟩
 ·refine .inl ⟨ha, ?_⟩
  have hw : r.ws = [] := by rw [hr, List.drop_of_length_le (by omega)]
  unfold Rd.name at h
  rw [hw] at h
  exact (Option.some.inj h).symm
/-- The word at a place of the list: its sort and text, in memory. -/
theorem rd_sort {q : Rc} {W : World} {a : Nat} {er pl : Int} (hq : q.ok) (h : Rf q W a er pl) (ha : a < q.ws.length) : ∃ ad, q.A = some ad ∧ W.cell? (ad.add (a * 3)) = some (.int .u8 q.ws[a].f0) ∧ W.cell? ⟨(ad.add (a * 3)).block, (ad.add (a * 3)).off + 1, none⟩ = some (.string (bytesB (q.rd a).next)) := by
 obtain ⟨ad, ead, hx0, hx1, hx2⟩ := at_T114 hq.1 (a : Int) (by omega) (by omega)
 have e : rd_T114 q.ws (a : Int) = q.ws[a] := by unfold rd_T114; rw [Int.toNat_natCast, List.getD_eq_getElem?_getD, List.getElem?_eq_getElem ha]; rfl
 rw [(rd_next q a ha).1] at hx1
 rw [e] at hx0
 rw [Int.toNat_natCast] at hx0 hx1
 exact ⟨ad, ead, (h.2.cell (World.block_lt_of_cell? q.w0 _ hx0)).trans hx0, (h.2.cell (World.block_lt_of_cell? q.w0 _ hx1)).trans hx1⟩
theorem wrap8 (i : Nat) (h : i < 8) : IntKind.u8.wrap (i : Int) = (i : Int) := by rcases i with _ | _ | _ | _ | _ | _ | _ | _ | i <;> first | rfl | omega
theorem drewN_twice (W : World) (m n : Nat) : (W.drewN m).drewN n = W.drewN (m + n) := by simp
set_option maxHeartbeats 8000000 in
set_option maxRecDepth 100000 in
theorem atom2_does (q : Rc) (hq : q.ok) (hwn : ∀ w ∈ q.ws, w.f1.data.toList ≠ []) (n : Nat) (hn : n ≤ 100000) (d_iff : DoesAt q n 0) : DoesAtom q (n + 1) := by
 intro r e hrun W a pl hr ha hF
 have hrun2 := atom_run hrun
 obtain ⟨W2, hW2⟩ : ∃ W2, W2 = (W.alloc (.cells #[.string ⟨#[116, 114, 117, 101]⟩, .string ⟨#[102, 97, 108, 115, 101]⟩, .string ⟨#[108, 97, 115, 116]⟩] 9)).alloc (.cells #[.int .u8 0, .int .u8 1, .int .u8 3] 39) := ⟨_, rfl⟩
 have hB2 : Below W.heap.size W W2 := by rw [hW2]; exact below_alloc (below_alloc (Below.refl _ _) _) _
 have BK3 : W2.heap[W.heap.size]? = some (.cells #[.string ⟨#[116, 114, 117, 101]⟩, .string ⟨#[102, 97, 108, 115, 101]⟩, .string ⟨#[108, 97, 115, 116]⟩] 9 (0, 0)) := by rw [hW2]; exact blk_alloc (blk_new _ _) _
 have BK4 : W2.heap[W.heap.size + 1]? = some (.cells #[.int .u8 0, .int .u8 1, .int .u8 3] 39 (0, 0)) := by rw [hW2]; exact blk_new_at (by simp)
 have HQ := Aside0.mk hq
 have hnx := next_drop hr
 have HF := Aside0.mk (hF.keep hq hB2)
 have HK : Aside0 (KeepG q.g W W2) := ⟨KeepBut.of_below hB2 _ _⟩
 have HW := Aside0.mk (show q.g < W.heap.size from blk_lt hF.1)
 have HN := Aside0.mk (show n ≤ 100000 ∧ r.ws = q.ws.drop a from ⟨hn, hr⟩)
 have HWS : Aside0 (∀ i (h : i < atW.length), W2.cell? ⟨W.heap.size, i, none⟩ = some (.string (bytesB atW[i])) ∧ atW[i] ≠ []) := ⟨fun i h => match i, h with
  | 0, _ => ⟨(blk_cell BK3 0).trans rfl, atW_ne _ (List.getElem_mem (by assumption))⟩ | 1, _ => ⟨(blk_cell BK3 1).trans rfl, atW_ne _ (List.getElem_mem (by assumption))⟩ | 2, _ => ⟨(blk_cell BK3 2).trans rfl, atW_ne _ (List.getElem_mem (by assumption))⟩⟩
 have HOS : Aside0 (∀ i (h : i < atO.length), W2.cell? ⟨W.heap.size + 1, i, none⟩ = some (.int .u8 atO[i])) := ⟨fun i h => match i, h with
  | 0, _ => (blk_cell BK4 0).trans rfl | 1, _ => (blk_cell BK4 1).trans rfl | 2, _ => (blk_cell BK4 2).trans rfl⟩
 have isT : Aside0 (∀ s : Bs, r.next = s → isB q a 0 s = true) := ⟨fun s h => by unfold isB; rw [decide_eq_true (hnx ▸ h : (q.rd a).next = s)]; rfl⟩
 have isF : Aside0 (∀ s : Bs, ¬ r.next = s → isB q a 0 s = false) := ⟨fun s h => by unfold isB; rw [decide_eq_false (fun h2 => h (hnx.trans h2))]; rfl⟩
 have lt : Aside0 (∀ s : Bs, s ≠ [] → r.next = s → a < q.ws.length) := ⟨fun s hs h => is_lt hs (hnx ▸ h)⟩
 have rsz : Aside0 (a < q.ws.length → r.pop.size + 1 = r.size) := ⟨fun h => pop_one (r := r) (by have h9 := congrArg List.length hr; rw [List.length_drop] at h9; omega)⟩
 have HNX := Aside0.mk hnx
 have HRUN := Aside0.mk hrun2
 have HWN := Aside0.mk hwn
 have DI := Aside0.mk d_iff
 clear hq hF hn hr hnx hrun hrun2 hB2 BK3 BK4 d_iff hwn
 show Calls Tryz.prog 88 _ W _
 go_enter Tryz.func88, Tryz.ntmps88
 go_wp2
 rw [← hW2]
 clear hW2
 go_loopg [5] 3 (fun kq v6 w' => ∃ i nd : Nat, v6 = .int .i64 (i : Int) ∧ Aside0 (i + kq = 3) ∧ Aside0 (opL (atW.drop i) (atO.drop i) r.next = opL atW atO r.next) ∧ w' = W2.drewN nd)
 case atStart => exact ⟨0, 0, rfl, ⟨by omega⟩, ⟨rfl⟩, rfl⟩
 case round =>
  obtain ⟨i, nd, rfl, hi, hx, rfl⟩ := hrel
  cases gk with
  | zero =>
   have hi3 : i = 3 := by have := hi.out; omega
   subst hi3
   have hno : opL atW atO r.next = none := by rw [← hx.out]; show opL [] [] r.next = none; rw [opL]; exact fun _ _ _ _ h _ => by cases h
   have d1 : W2.cell? ⟨q.g, 1, none⟩ = some (.int .i64 (a : Int)) := (blk_cell HF.out.1 1).trans rfl
   have f1 := blk_frozen HF.out.1 1
   have HI6 := Aside0.mk (fun m => is_calls q HQ.out (W2.drewN m) a 0 pl [40] (by decide) (HF.out.drewN m))
   rcases HRUN.out with ⟨o2, h1, _⟩ | ⟨_, ⟨hs, e1, h1, h2⟩ | ⟨hs, h1⟩⟩
   ·rw [hno] at h1; cases h1
   ·have hL := lt.out [40] (by decide) hs
    have HL := Aside0.mk hL
    have HP := Aside0.mk (And.intro (pop_drop HN.out.2) (rsz.out hL))
    have HR1 := Aside0.mk h1
    have HN1 := Aside0.mk (run_pos h1)
    have HE := Aside0.mk h2
    have HD := Aside0.mk (fun w (h : Rf q w (a + 1) 0 pl) => DI.out r.pop e1 h1 w (a + 1) pl HP.out.1 hL h)
    have HWT := Aside0.mk (fun w v l a2 er p (hH : Hold q W w v l a2 er p) hm => want_mid (s := [41]) (e := e1) (pl := pl) HQ.out HP.out.1 (by decide) (b := 5000 * n) (by have := HN1.out; omega) hH hm)
    rw [isT.out [40] hs] at HI6
    clear hi hx hno hs h1 h2 hL isT isF lt rsz DI HRUN HWS HOS HNX
    go_wp2_with (first | (go_at_call 67; refine (HI6.out _).mono ?_; rintro e w' ⟨rfl, ⟨n6, rfl⟩⟩; clear HI6) | (go_at_call 52; refine (HD.out _ ?xx).mono ?_; (case xx => exact (HF.out.drewN _).inc HQ.out HL.out); intro e4 w4 ht; obtain ⟨v, l, a2, er, p, rfl, hh, hm⟩ := told_mid HR1.out ht; have HH := Aside0.mk (hh.low (W := W) ((HK.out.drewN _).set _)); have HM := Aside0.mk hm; clear ht hh hm) | (go_at_call 87; refine (HWT.out _ _ _ _ _ _ HH.out HM.out).mono ?_; rintro e5 w5 ⟨rfl, a3, er3, p3, hh5, hm5⟩; have HH5 := Aside0.mk hh5; have HM5 := Aside0.mk hm5; clear hh5 hm5))
    go_ret
    rw [HE.out]
    exact mid_told (b := 5000 * n) HQ.out HN.out.2 (by omega) HH5.out (mid_up (r := r.pop) rfl (by have := HP.out.2; omega) (Nat.le_refl _) HM5.out)
   ·rw [isF.out [40] hs] at HI6
    have HC := name2_cases HN.out.2 HWN.out h1
    have d0 : W2.cell? ⟨q.g, 0, none⟩ = some (.slice q.A q.ws.length q.c) := (blk_cell HF.out.1 0).trans rfl
    have d3 : W2.cell? ⟨q.g, 3, none⟩ = some (.slice q.nm q.names.length q.cn) := (blk_cell HF.out.1 3).trans rfl
    have d4 : W2.cell? ⟨q.g, 4, none⟩ = some (.int .i64 0) := (blk_cell HF.out.1 4).trans rfl
    have HPL := Aside0.mk (show r.place q.last = (q.rd a).place q.last by unfold Rc.rd Rd.place; rw [HN.out.2])
    have hnx := HNX.out
    clear hi hx hno hs h1 isT isF rsz lt DI HRUN HWS HOS HNX HWN
    rcases HC with ⟨hna, rfl⟩ | ⟨hla, ⟨h2, rfl⟩ | ⟨h2, hp⟩⟩
    ·obtain rfl : a = q.ws.length := by omega
     clear hna hnx
     go_wp2_with (first | (go_at_call 67; refine (HI6.out _).mono ?_; rintro e w' ⟨rfl, ⟨n6, rfl⟩⟩; clear HI6))
     go_quiet (fail)
     go_wp2_with (first | (go_at_call 53; refine (fail_now q HQ.out _ _ pl 150 (HF.out.drewN _)).mono ?_; rintro e4 w4 ⟨rfl, hf, hk⟩; have HH := Aside0.mk (Hold.nil hf ((HK.out.drewN _).trans hk)); clear hf hk))
     go_ret
     show Told2 q W pl r (n + 1) (.stop 150 (r.place q.last)) _ _
     rw [HPL.out]
     exact ⟨_, [], _, rfl, Nat.zero_le _, by decide, HH.out⟩
    ·obtain ⟨ad, ead, x0, x1⟩ := rd_sort HQ.out HF.out hla
     rw [ead] at d0
     have g1 : decide ((a : Int) < (q.ws.length : Int)) = true := decide_eq_true (by omega)
     have g2 := eq_true (show (0 : Int) ≤ (a : Int) by omega)
     have g3 := eq_true hla
     have g5 : decide (a < q.ws.length) = true := decide_eq_true hla
     obtain ⟨z, hz⟩ : ∃ z, z = q.ws[a].f0 := ⟨_, rfl⟩
     rw [← hz] at x0 h2
     have g4 : (z == 2) = false := beq_eq_false_iff_ne.2 h2
     clear hz hla hnx h2 ead
     go_wp2_with (first | (go_at_call 67; refine (HI6.out _).mono ?_; rintro e w' ⟨rfl, ⟨n6, rfl⟩⟩; clear HI6))
     go_quiet (fail)
     go_wp2_with (first | (go_at_call 53; refine (fail_now q HQ.out _ a pl 150 (HF.out.drewN _)).mono ?_; rintro e4 w4 ⟨rfl, hf, hk⟩; have HH := Aside0.mk (Hold.nil hf ((HK.out.drewN _).trans hk)); clear hf hk))
     go_ret
     show Told2 q W pl r (n + 1) (.stop 150 (r.place q.last)) _ _
     rw [HPL.out]
     exact ⟨_, [], a, rfl, Nat.zero_le _, by decide, HH.out⟩
    ·obtain ⟨ad, ead, x0, x1⟩ := rd_sort HQ.out HF.out hla
     rw [h2] at x0
     rw [ead] at d0
     rw [← hnx] at x1
     have HL := Aside0.mk hla
     have HP := Aside0.mk hp
     have g1 : decide ((a : Int) < (q.ws.length : Int)) = true := decide_eq_true (by omega)
     have g2 := eq_true (show (0 : Int) ≤ (a : Int) by omega)
     have g3 := eq_true hla
     have g5 : decide (a < q.ws.length) = true := decide_eq_true hla
     clear hp hla hnx h2 ead
     go_wp2_with (first | (go_at_call 67; refine (HI6.out _).mono ?_; rintro e w' ⟨rfl, ⟨n6, rfl⟩⟩; clear HI6))
     go_quiet (fail)
     go_wp2_with fail
     go_loopg [7] q.names.length (fun kq v7 w' => ∃ j nd2 : Nat, v7 = .int .i64 (j : Int) ∧ Aside0 (j + kq = q.names.length) ∧ Aside0 (∀ x (h : x < q.names.length), x < j → q.names[x].data.toList ≠ r.next) ∧ w' = W2.drewN nd2)
     case atStart => exact ⟨0, _, rfl, ⟨by omega⟩, ⟨fun x h hx => absurd hx (Nat.not_lt_zero _)⟩, by first | rfl | exact drewN_twice _ _ _⟩
     case round =>
      obtain ⟨j, nd2, rfl, hj, hbef, rfl⟩ := hrel
      cases gk with
      | zero =>
       have hjl : j = q.names.length := by have := hj.out; omega
       subst hjl
       have hpn : placeOf q.names r.next = none := by
        unfold placeOf
        rw [List.findIdx?_eq_none_iff]
        intro x hx
        obtain ⟨j, hj, rfl⟩ := List.getElem_of_mem hx
        exact beq_eq_false_iff_ne.2 (hbef.out j hj hj)
       obtain rfl : e = r.fail q.last 6 := by
        rcases HP.out with ⟨_, h⟩ | ⟨i, h, _⟩
        ·exact h
        ·rw [hpn] at h; cases h
       clear hj hbef hpn HP
       go_wp2_with (first | (go_at_call 53; refine (fail_now q HQ.out _ a pl 6 (HF.out.drewN _)).mono ?_; rintro e4 w4 ⟨rfl, hf, hk⟩; have HH := Aside0.mk (Hold.nil hf ((HK.out.drewN _).trans hk)); clear hf hk))
       go_ret
       show Told2 q W pl r (n + 1) (.stop 6 (r.place q.last)) _ _
       rw [HPL.out]
       exact ⟨_, [], a, rfl, Nat.zero_le _, by decide, HH.out⟩
      | succ k2 =>
       have hjl : j < q.names.length := by have := hj.out; omega
       obtain ⟨an, ean, y0⟩ := Kd.at_string HQ.out.2.2.2.1 (j : Int) (by omega) (by omega)
       rw [Int.toNat_natCast] at y0
       have er : rdOf ByteArray.empty q.names (j : Int) = q.names[j] := by unfold rdOf; rw [Int.toNat_natCast]; simp [List.getD, List.getElem?_eq_getElem hjl]
       rw [er] at y0
       replace y0 := (HF.out.2.cell (World.block_lt_of_cell? q.w0 _ y0)).trans y0
       rw [ean] at d3
       have m1 : decide ((j : Int) < (q.names.length : Int)) = true := decide_eq_true (by omega)
       have m2 := eq_true (show (0 : Int) ≤ (j : Int) by omega)
       have m3 := eq_true hjl
       have m5 : decide (j < q.names.length) = true := decide_eq_true hjl
       have hto : ∀ a : ByteArray, a.toList = a.data.toList := fun a => bytes_eq a.data.toList
       obtain ⟨s, hs⟩ : ∃ s, s = q.names[j] := ⟨_, rfl⟩
       rw [← hs] at y0
       have hw : Aside0 (wrap64 ((j : Int) + 1) = ((j + 1 : Nat) : Int)) := ⟨by have := HQ.out.2.2.2.2.2.1; unfold wrap64; omega⟩
       have hj1 : Aside0 (j + 1 + k2 = q.names.length) := ⟨by have := hj.out; omega⟩
       have h8 : j < 8 := by have := HQ.out.2.2.2.2.2.1; omega
       have hw8 := wrap8 j h8
       by_cases he : s.data.toList = r.next
       ·have m4 : (s.toList == (bytesB r.next).toList) = true := by rw [bytes_eq, hto, beq_iff_eq]; exact he
        have hpn : placeOf q.names r.next = some j := by
         unfold placeOf
         rw [List.findIdx?_eq_some_iff_getElem]
         exact ⟨hjl, beq_iff_eq.2 (hs ▸ he), fun x hx h2 => hbef.out x (by omega) hx (beq_iff_eq.1 h2)⟩
        obtain rfl : e = .go (⟨r.ws, r.out ++ [⟨2, (j : Int)⟩]⟩ : Rd).pop := by
         rcases HP.out with ⟨h, _⟩ | ⟨i, h, h2⟩
         ·rw [hpn] at h; cases h
         ·rw [hpn] at h; cases h; exact h2
        clear hj hbef hpn HP er ean hto hs he
        go_wp2_with fail
        go_quiet (fail)
        go_wp2
        go_ret
        refine ⟨.slice (some ⟨W2.heap.size, 0, none⟩) 1 1, [⟨2, (j : Int)⟩], a + 1, rfl, rfl, pop_drop (r := (⟨r.ws, r.out ++ [⟨2, (j : Int)⟩]⟩ : Rd)) HN.out.2, HL.out, (by simp), ?_⟩
        exact Hold.lit (⟨2, (j : Int)⟩ : Tk) ((HF.out.drewN _).inc HQ.out HL.out) ((HK.out.drewN _).set _)
       ·have m4 : (s.toList == (bytesB r.next).toList) = false := by rw [bytes_eq, hto, beq_eq_false_iff_ne]; exact he
        have hb2 : Aside0 (∀ x (h : x < q.names.length), x < j + 1 → q.names[x].data.toList ≠ r.next) := ⟨fun x h hx => by
         rcases Nat.lt_succ_iff_lt_or_eq.1 hx with h1 | h1
         ·exact hbef.out x h h1
         ·subst h1; rw [← hs]; exact he⟩
        clear hj hbef er ean hto hs he HP
        go_wp2_with fail
        go_quiet (fail)
        go_wp2_with fail
        go_roundg k2
        case measure => exact Nat.lt_succ_self _
        case rel => exact ⟨j + 1, _, by first | rfl | (show Value.int .i64 (wrap64 _) = _; rw [hw.out]), hj1, hb2, rfl⟩
  | succ k1 =>
   have hil : i < 3 := by have := hi.out; omega
   obtain ⟨s, hs⟩ : ∃ s, s = atW[i] := ⟨_, rfl⟩
   obtain ⟨o, ho⟩ : ∃ o, o = atO[i] := ⟨_, rfl⟩
   have hxx := hx.out
   rw [opL_at atW atO _ i hil hil, ← hs, ← ho] at hxx
   obtain ⟨e0, hne⟩ := HWS.out i hil
   rw [← hs] at e0 hne
   have o0 := HOS.out i hil
   rw [← ho] at o0
   have HI := Aside0.mk (fun m => is_calls q HQ.out (W2.drewN m) a 0 pl s hne (HF.out.drewN m))
   have c1 : decide ((i : Int) < 3) = true := decide_eq_true (by omega)
   have c2 : decide (i < 3) = true := decide_eq_true hil
   have p1 := eq_true (show (0 : Int) ≤ (i : Int) by omega)
   have p2 := eq_true hil
   have p3 := eq_true (show (i : Int) < 3 by omega)
   have hw : Aside0 (wrap64 ((i : Int) + 1) = ((i + 1 : Nat) : Int)) := ⟨by unfold wrap64; omega⟩
   have hi1 : Aside0 (i + 1 + k1 = 3) := ⟨by have := hi.out; omega⟩
   clear hi hx hs ho
   by_cases hn : r.next = s
   ·rw [if_pos hn] at hxx
    have e1 : isB q a 0 s = true := isT.out s hn
    rw [e1] at HI
    have hL := lt.out s hne hn
    have HL := Aside0.mk hL
    have HE := Aside0.mk (show e = .go (r.put o).pop from by
     rcases HRUN.out with ⟨o2, h1, h2⟩ | ⟨h1, _⟩
     ·rw [← hxx] at h1; cases h1; exact h2
     ·rw [← hxx] at h1; cases h1)
    have d1 : W2.cell? ⟨q.g, 1, none⟩ = some (.int .i64 (a : Int)) := (blk_cell HF.out.1 1).trans rfl
    have f1 := blk_frozen HF.out.1 1
    have n1 : W.heap.size ≠ q.g := by have := HW.out; omega
    have n2 : q.g ≠ W.heap.size := fun e => n1 e.symm
    have n3 : W.heap.size + 1 ≠ q.g := by have := HW.out; omega
    have n4 : q.g ≠ W.heap.size + 1 := fun e => n3 e.symm
    clear hxx hn e1 hL isT isF lt rsz DI HRUN HNX
    go_wp2_with (go_at_call 67; refine (HI.out _).mono ?_; rintro e w' ⟨rfl, ⟨nd2, rfl⟩⟩)
    go_ret
    rw [HE.out]
    refine ⟨.slice (some ⟨W2.heap.size, 0, none⟩) 1 1, [⟨o, 0⟩], a + 1, rfl, rfl, pop_drop (r := r.put o) HN.out.2, HL.out, (by simp), ?_⟩
    exact Hold.lit (⟨o, 0⟩ : Tk) ((HF.out.drewN _).inc HQ.out HL.out) ((HK.out.drewN _).set _)
   ·rw [if_neg hn] at hxx
    have e1 : isB q a 0 s = false := isF.out s hn
    rw [e1] at HI
    have HX := Aside0.mk hxx
    clear hn e1 hxx isT isF lt rsz DI HRUN HNX
    go_wp2_with (go_at_call 67; refine (HI.out _).mono ?_; rintro e w' ⟨rfl, ⟨nd2, rfl⟩⟩)
    go_roundg k1
    case measure => exact Nat.lt_succ_self _
    case rel => exact ⟨i + 1, _, by first | rfl | (show Value.int .i64 (wrap64 _) = _; rw [hw.out]), hi1, HX, rfl⟩
end Go.Proofs.YtaogoabnidbbpaaGreatDoor.PText
namespace Go.Proofs.YtaogoabnidbbpaaGreatDoor.PText
open Go.RowKit Go.Proofs.YtaogoabnidbbpaaGreatDoorW.PrintWords Go.Proofs.YtaogoabnidbbpaaGreatDoorW.PrintLast Go.Proofs.YtaogoabnidbbpaaGreatDoorW.PrintMore
set_option linter.unusedVariables false
set_option linter.unusedSimpArgs false
structure DoesAll (q : Rc) (n : Nat) : Prop where
 at_ : ∀ k, k ≤ 5 → DoesAt q n k
 un : DoesUnary q n
 atom : DoesAtom q n
 path : ∀ k, k ≤ 2 → DoesPath q n k
 bare : DoesBare q n
theorem all2_does (q : Rc) (hq : q.ok) (hwn : ∀ w ∈ q.ws, w.f1.data.toList ≠ []) (n : Nat) : n ≤ 100001 → DoesAll q n := by
 induction n using Nat.strongRecOn with
 | _ n ih =>
  intro hn
  cases n with
  | zero =>
   have z : ∀ nt r e, run q.names q.last 0 nt r = some e → False := fun nt r e h => by rw [run] at h; cases h
   exact ⟨fun k _ r e h => (z _ _ _ h).elim, fun r e h => (z _ _ _ h).elim, fun r e h => (z _ _ _ h).elim, fun k _ r e h => (z _ _ _ h).elim, fun r e h => (z _ _ _ h).elim⟩
  | succ n =>
   have d := ih n (by omega) (by omega)
   have un := unary2_does q hq n (by omega) d.un (d.path 0 (by omega)) d.atom
   refine ⟨fun k hk => ?_, un, atom2_does q hq hwn n (by omega) (d.at_ 0 (by omega)), fun k hk => ?_, bare2_does q hq n (by omega) (d.at_ 0 (by omega)) d.un (d.path 0 (by omega))⟩
   ·by_cases h5 : k = 5
    ·subst h5; exact at5_does q hq (n + 1) un
    ·exact at_does q hq n (by omega) k (by omega) (d.at_ (k + 1) (by omega)) (fun m hm => (ih m (by omega) (by omega)).at_ _ (by unfold nxK; split <;> omega))
   ·by_cases h2 : k = 2
    ·subst h2; exact star2_does q hq n (by omega) d.bare
    ·exact path_does q hq n (by omega) k (by omega) (fun m hm => (ih m (by omega) (by omega)).path _ (by omega))
end Go.Proofs.YtaogoabnidbbpaaGreatDoor.PText
