/- Texts of this work merged into one file, what the law does not need left out: TextName; TextAtom; TextAll. Conditions stand in each law. -/
import Derived.Test.YtaogoabnidbbpaaGreatDoorSt40
import Derived.Test.YtaogoabnidbbpaaGreatDoorSt41
namespace Go.Proofs.YtaogoabnidbbpaaGreatDoor.PText
open Go.RowKit Go.Proofs.YtaogoabnidbbpaaGreatDoorW.PrintWords Go.Proofs.YtaogoabnidbbpaaGreatDoorW.PrintLast Go.Proofs.YtaogoabnidbbpaaGreatDoorW.PrintMore Go.Proofs.YtaogoabnidbbpaaGreatDoorW.Aid
set_option linter.unusedVariables false
set_option linter.unusedSimpArgs false
def idxI (names : List ByteArray) (s : Bs) : Int := match placeOf names s with | none => -1 | some i => (i : Int)
theorem index_loop (names : List ByteArray) (s : Bs) (hl : names.length ≤ 4096) (d : Nat) : ∀ (i k : Nat), i + d = names.length → d < k → (∀ j (h : j < names.length), j < i → names[j].data.toList ≠ s) →
  slices_Index_string_string.l0 k names (bytesB s) (names.length : Int) (i : Int) = some (idxI names s) := by
 induction d with
 | zero =>
  intro i k hi hk hno
  obtain ⟨k, rfl⟩ : ∃ m, k = m + 1 := ⟨k - 1, by omega⟩
  simp only [slices_Index_string_string.l0]
  rw [if_neg (by omega)]
  have h : placeOf names s = none := by
   unfold placeOf
   rw [List.findIdx?_eq_none_iff]
   intro x hx
   obtain ⟨j, hj, rfl⟩ := List.getElem_of_mem hx
   exact beq_eq_false_iff_ne.2 (hno j hj (by omega))
  unfold idxI
  rw [h]
 | succ d ih =>
  intro i k hi hk hno
  obtain ⟨k, rfl⟩ : ∃ m, k = m + 1 := ⟨k - 1, by omega⟩
  have hil : i < names.length := by omega
  simp only [slices_Index_string_string.l0]
  rw [if_pos (by omega), if_pos (by omega), if_pos (by omega)]
  have hr : rdOf ByteArray.empty names (i : Int) = names[i] := by
   unfold rdOf
   rw [Int.toNat_natCast]
   simp [List.getD, List.getElem?_eq_getElem hil]
  rw [hr]
  have hto : ∀ a : ByteArray, a.toList = a.data.toList := fun a => bytes_eq a.data.toList
  by_cases he : names[i].data.toList = s
  ·rw [if_pos (by rw [bytes_eq, hto]; exact he.symm)]
   have h : placeOf names s = some i := by
    unfold placeOf
    rw [List.findIdx?_eq_some_iff_getElem]
    exact ⟨hil, beq_iff_eq.2 he, fun j hj h2 => hno j (by omega) hj (beq_iff_eq.1 h2)⟩
   unfold idxI
   rw [h]
  ·rw [if_neg (fun h => he (by rw [bytes_eq, hto] at h; exact h.symm))]
   have hw : wrap64 ((i : Int) + 1) = ((i + 1 : Nat) : Int) := by unfold wrap64; omega
   rw [hw]
   refine ih (i + 1) k (by omega) (by omega) (fun j hj hji => ?_)
   rcases Nat.lt_succ_iff_lt_or_eq.1 hji with h | h
   ·exact hno j hj h
   ·subst h
    exact he
theorem index_ok (names : List ByteArray) (s : Bs) (hl : names.length ≤ 4096) : slices_Index_string_string.f (names.length + 1) names (bytesB s) = some (idxI names s) :=
 index_loop names s hl names.length 0 _ (by omega) (by omega) (fun j h hj => absurd hj (Nat.not_lt_zero _))
set_option maxHeartbeats 4000000 in
set_option maxRecDepth 100000 in
theorem name_empty (w0 : World) (g : Nat) (nm : Option Addr) (nn cn : Nat) (last : Int) (r : Rd) (hn : r.next = []) (W : World) (h : RdAt w0 g nm nn cn last W r) :
  Calls Tryz.prog 104 #[.pointer (some ⟨g, 0, none⟩), .string (bytesB r.next)] W (Told w0 g nm nn cn last (r.fail last 150)) := by
 have HI := Aside0.mk h
 have x0 : ((bytesB r.next).toList == ([] : List UInt8)) = true := by rw [bytes_eq, hn]; decide
 have HF := Aside0.mk (fun W h => fail_calls w0 g nm nn cn last r 150 W h)
 clear h hn
 go_enter Tryz.func104, Tryz.ntmps104
 go_wp2_with (go_at_call 49; refine (HF.out _ HI.out).mono ?_; rintro e w' ⟨rfl, hb⟩; unfold thrown)
 exact ⟨rfl, rfl, hb⟩
set_option maxHeartbeats 4000000 in
set_option maxRecDepth 100000 in
theorem name_sort (w0 : World) (g : Nat) (nm : Option Addr) (nn cn : Nat) (last : Int) (r : Rd) (hn : r.next ≠ []) (hs : (rd_T114 r.ws 0).f0 ≠ 2) (W : World) (h : RdAt w0 g nm nn cn last W r) :
  Calls Tryz.prog 104 #[.pointer (some ⟨g, 0, none⟩), .string (bytesB r.next)] W (Told w0 g nm nn cn last (r.fail last 150)) := by
 have HI := Aside0.mk h
 have x0 : ((bytesB r.next).toList == ([] : List UInt8)) = false := by rw [bytes_eq, beq_eq_false_iff_ne]; exact hn
 have HF := Aside0.mk (fun W h => fail_calls w0 g nm nn cn last r 150 W h)
 have h0 : r.ws ≠ [] := fun e => hn (next_nil e)
 have hpos : 0 < r.ws.length := List.length_pos_iff.2 h0
 obtain ⟨A, c, vo, hb, hg, hC, hc, hR, hB⟩ := h
 have d1 : W.cell? ⟨g, 1, none⟩ = some (.slice A r.ws.length c) := (blk_cell hb 1).trans rfl
 have c2 := eq_true (show (0 : Int) < (r.ws.length : Int) by omega)
 obtain ⟨ad, ead, hx0, hx1, hx2⟩ := at_T114 hC 0 (by omega) (by omega)
 cases ead
 have y0 : W.cell? ad = some (.int .u8 (rd_T114 r.ws 0).f0) := (hB.cell (World.block_lt_of_cell? w0 _ hx0)).trans hx0
 have s1 : ((rd_T114 r.ws 0).f0 == 2) = false := beq_eq_false_iff_ne.2 hs
 have s2 : ((rd_T114 r.ws 0).f0 != 2) = true := bne_iff_ne.2 hs
 clear hx0 hx1 hx2 h0 hn hb hg hC hc hR hB
 go_enter Tryz.func104, Tryz.ntmps104
 go_wp2_with (go_at_call 49; refine (HF.out _ HI.out).mono ?_; rintro e w' ⟨rfl, hb⟩; unfold thrown)
 exact ⟨rfl, rfl, hb⟩
set_option maxHeartbeats 4000000 in
set_option maxRecDepth 100000 in
theorem name_missing (names : List ByteArray) (w0 : World) (g : Nat) (nm : Option Addr) (cn : Nat) (last : Int) (hN : Kd.C Kd.string w0 nm names.length names) (hcn : names.length ≤ cn) (hl : names.length ≤ 8) (r : Rd) (hn : r.next ≠ []) (hs : (rd_T114 r.ws 0).f0 = 2) (hi : idxI names r.next = -1) (W : World) (h : RdAt w0 g nm names.length cn last W r) :
  Calls Tryz.prog 104 #[.pointer (some ⟨g, 0, none⟩), .string (bytesB r.next)] W (Told w0 g nm names.length cn last (r.fail last 6)) := by
 have HI := Aside0.mk h
 have x0 : ((bytesB r.next).toList == ([] : List UInt8)) = false := by rw [bytes_eq, beq_eq_false_iff_ne]; exact hn
 have HF := Aside0.mk (fun W h => fail_calls w0 g nm names.length cn last r 6 W h)
 have h0 : r.ws ≠ [] := fun e => hn (next_nil e)
 have hpos : 0 < r.ws.length := List.length_pos_iff.2 h0
 obtain ⟨A, c, vo, hb, hg, hC, hc, hR, hB⟩ := h
 have HX := Aside0.mk (slices_Index_string_string.calls (names.length + 1) nm cn names (bytesB r.next) (-1) W (Kd.C_below hN hB) hcn (by rw [index_ok names _ (by omega), hi]))
 have d0 : W.cell? ⟨g, 0, none⟩ = some (.slice nm names.length cn) := (blk_cell hb 0).trans rfl
 have d1 : W.cell? ⟨g, 1, none⟩ = some (.slice A r.ws.length c) := (blk_cell hb 1).trans rfl
 have c2 := eq_true (show (0 : Int) < (r.ws.length : Int) by omega)
 obtain ⟨ad, ead, hx0, hx1, hx2⟩ := at_T114 hC 0 (by omega) (by omega)
 cases ead
 have y0 : W.cell? ad = some (.int .u8 (rd_T114 r.ws 0).f0) := (hB.cell (World.block_lt_of_cell? w0 _ hx0)).trans hx0
 rw [hs] at y0
 clear hx0 hx1 hx2 h0 hn hb hg hC hc hR hB hN hs hi
 go_enter Tryz.func104, Tryz.ntmps104
 go_wp2_with (first | (go_at_call 105; refine HX.out.mono ?_; rintro e w' ⟨rfl, ⟨nd, rfl⟩⟩; have HI2 := Aside0.mk (RdAt.drewN HI.out nd)) | (go_at_call 49; refine (HF.out _ HI2.out).mono ?_; rintro e w' ⟨rfl, hb⟩; unfold thrown))
 exact ⟨rfl, rfl, hb⟩
set_option maxHeartbeats 4000000 in
set_option maxRecDepth 100000 in
theorem name_found (names : List ByteArray) (w0 : World) (g : Nat) (nm : Option Addr) (cn : Nat) (last : Int) (hN : Kd.C Kd.string w0 nm names.length names) (hcn : names.length ≤ cn) (hl : names.length ≤ 8) (r : Rd) (hn : r.next ≠ []) (hs : (rd_T114 r.ws 0).f0 = 2) (i : Nat) (hi8 : i < 8) (hi : idxI names r.next = (i : Int)) (hlen : r.out.length ≤ 1099511627776) (W : World) (h : RdAt w0 g nm names.length cn last W r) :
  Calls Tryz.prog 104 #[.pointer (some ⟨g, 0, none⟩), .string (bytesB r.next)] W (Told w0 g nm names.length cn last (.go ⟨r.ws, r.out ++ [(⟨2, (i : Int)⟩ : Tk)]⟩)) := by
 have x0 : ((bytesB r.next).toList == ([] : List UInt8)) = false := by rw [bytes_eq, beq_eq_false_iff_ne]; exact hn
 have h0 : r.ws ≠ [] := fun e => hn (next_nil e)
 have hpos : 0 < r.ws.length := List.length_pos_iff.2 h0
 obtain ⟨A, c, vo, hb, hg, hC, hc, hR, hB⟩ := h
 have HX := Aside0.mk (slices_Index_string_string.calls (names.length + 1) nm cn names (bytesB r.next) (i : Int) W (Kd.C_below hN hB) hcn (by rw [index_ok names _ (by omega), hi]))
 have d0 : W.cell? ⟨g, 0, none⟩ = some (.slice nm names.length cn) := (blk_cell hb 0).trans rfl
 have d1 : W.cell? ⟨g, 1, none⟩ = some (.slice A r.ws.length c) := (blk_cell hb 1).trans rfl
 have c2 := eq_true (show (0 : Int) < (r.ws.length : Int) by omega)
 have c3 : decide ((i : Int) < 0) = false := decide_eq_false (by omega)
 have c4 : IntKind.u8.wrap (i : Int) = (i : Int) := by rcases i with _ | _ | _ | _ | _ | _ | _ | _ | i <;> first | rfl | omega
 obtain ⟨ad, ead, hx0, hx1, hx2⟩ := at_T114 hC 0 (by omega) (by omega)
 cases ead
 have y0 : W.cell? ad = some (.int .u8 (rd_T114 r.ws 0).f0) := (hB.cell (World.block_lt_of_cell? w0 _ hx0)).trans hx0
 rw [hs] at y0
 have HG := Aside0.mk hg
 have HC := Aside0.mk hC
 have Hc := Aside0.mk hc
 have HR := Aside0.mk hR
 have HB := Aside0.mk hB
 have HBK := Aside0.mk hb
 have HL := Aside0.mk hlen
 have hglt := Aside0.mk (blk_lt hb)
 have hvo : Aside0 (some g ≠ vo.ownBlock) := ⟨fun e => hR.1 g e.symm rfl⟩
 have d3 : W.cell? ⟨g, 3, none⟩ = some vo := (blk_cell hb 3).trans rfl
 have f3 := blk_frozen hb 3
 obtain ⟨Ao, co, eo⟩ := Kd.R_slice hR
 subst eo
 clear hx0 hx1 hx2 h0 hn hb hg hC hc hR hB hN hs hi hlen
 go_enter Tryz.func104, Tryz.ntmps104
 go_wp2_with (first | (go_at_call 105; refine HX.out.mono ?_; rintro e w' ⟨rfl, ⟨nd, rfl⟩⟩) | ((with_reducible refine gate_builtin (b := .append) (xs := #[.tmp 33, .tmp 37]) rfl ?_); at_builtin; refine Kd.R_append k41 (w0 := w0) w0.heap.size rfl (.tmp 33) (.tmp 37) 23 41 (.agg #[(.int .u8 0), (.int .u8 0)]) 2 rfl Tryz.underlying23 info41 rfl (by decide) (by omega) (.slice Ao r.out.length co) r.out (⟨2, (i : Int)⟩ : Tk) [.int .u8 2, .int .u8 (i : Int)] (fun k => k ≠ g) (fun _ => False) rfl rfl ?aP (fun _ hk => hk.elim) ?aF ?aO ?aB ?aS ?aL ?_; (case aP => exact k41_mkM _ _ _ (⟨2, (i : Int)⟩ : Tk)); (case aB => exact pw_below_drewN HB.out _); (case aF => exact (fun k hk e => absurd hglt.out (by rw [← e]; exact Nat.not_lt.2 hk))); (case aO => exact Kd.R_drewN HR.out _); (case aS => exact (pw_below_drewN HB.out nd).size); (case aL => have := HL.out; omega); intro v1 w1 ho hb hg hat; obtain ⟨A2, c2, e2⟩ := Kd.R_slice ho; subst e2; have HO := Aside0.mk ho; have HB2 := Aside0.mk hb; have HBK2 := Aside0.mk (blk_grown (blk_drewN HBK.out nd) hg hvo.out); have f4 := blk_frozen HBK2.out 3; have d4 : w1.cell? ⟨g, 3, none⟩ = some (.slice Ao r.out.length co) := (blk_cell HBK2.out 3).trans rfl; clear ho hb hg hat HB HR))
 go_end0
 have hlx : (r.out ++ [(⟨2, (i : Int)⟩ : Tk)]).length = r.out.length + 1 := by rw [List.length_append]; rfl
 have h2 := HO.out
 rw [hlx] at h2
 have h3 := Kd.R_far (p := ⟨g, 3, none⟩) h2 (fun _ hk => hk) (.slice A2 (r.out.length + 1) c2)
 exact ⟨rfl, some ad, c, .slice A2 (r.out.length + 1) c2, blk_put HBK2.out 3 _ rfl, HG.out, HC.out, Hc.out, h3, below_set HB2.out HG.out⟩
set_option maxHeartbeats 4000000 in
set_option maxRecDepth 100000 in
theorem atom_word0 (w0 : World) (g : Nat) (nm : Option Addr) (nn cn : Nat) (last : Int) (r : Rd) (hn : r.next = [116, 114, 117, 101]) (hsz : r.size ≤ 1099511627775) (W : World) (hI : RdAt w0 g nm nn cn last W r) :
  Calls Tryz.prog 103 #[.pointer (some ⟨g, 0, none⟩)] W (Told w0 g nm nn cn last (.go (r.put 0).pop)) := by
 have HI := Aside0.mk hI
 clear hI
 have hpos0 := next_ws (by decide) hn
 have HW : Aside0 (1 ≤ (r.put 0).ws.length) := ⟨hpos0⟩
 have hlo : r.out.length ≤ 1099511627776 := by have h7 : r.out.length ≤ r.size := Nat.le_add_right _ _; omega
 have HX := Aside0.mk (fun W h => next_calls w0 g nm nn cn last r W h)
 have HP := Aside0.mk (fun W h => put_calls w0 g nm nn cn last r 0 hlo W h)
 have x0 : ((bytesB r.next).toList == ([116, 114, 117, 101] : List UInt8)) = true := by rw [bytes_eq, hn]; decide
 clear hn hlo hpos0
 go_enter Tryz.func103, Tryz.ntmps103
 go_wp2_with (first | (go_at_call 93; refine (HX.out _ HI.out).mono ?_; rintro e w' ⟨rfl, ⟨nd, rfl⟩⟩; have HI3 := Aside0.mk (RdAt.drewN HI.out nd)))
 go_at_call 80
 refine (HP.out _ HI3.out).mono ?_
 rintro e w' ⟨rfl, hK2⟩
 have K2 := Aside0.mk hK2
 clear hK2 HP
 obtain ⟨A, c, vo, hb, hg, hC, hc, hR, hB⟩ := K2.out
 have d1 : w'.cell? ⟨g, 1, none⟩ = some (.slice A (r.put 0).ws.length c) := (blk_cell hb 1).trans rfl
 have f1 := blk_frozen hb 1
 have hpos : 1 ≤ (r.put 0).ws.length := HW.out
 have g1 := eq_true (show (1 : Int) ≤ ((r.put 0).ws.length : Int) by omega)
 have g2 := eq_true (show ((r.put 0).ws.length : Int) ≤ (c : Int) by omega)
 have g3 := eq_true (show 1 ≤ (r.put 0).ws.length by omega)
 have g4 := eq_true (show (r.put 0).ws.length ≤ c by omega)
 by_cases hc1 : c = 1
 ·have HP0 := Aside0.mk (RdAt.pop_end hb hg hC hc hR hB hpos hc1)
  subst hc1
  have hl1 : Aside0 ((r.put 0).ws.length = 1) := ⟨by omega⟩
  rw [hl1.out] at d1
  clear hb hg hC hc hR hB hpos
  clear g1 g2 g3 g4
  go_wp2
  go_end0
  exact ⟨rfl, HP0.out⟩
 ·have HP0 := Aside0.mk (RdAt.pop_far hb hg hC hc hR hB hpos hc1)
  clear hb hg hC hc hR hB hpos
  go_wp2
  go_end0
  exact ⟨rfl, HP0.out⟩
set_option maxHeartbeats 4000000 in
set_option maxRecDepth 100000 in
theorem atom_word1 (w0 : World) (g : Nat) (nm : Option Addr) (nn cn : Nat) (last : Int) (r : Rd) (hn : r.next = [102, 97, 108, 115, 101]) (hsz : r.size ≤ 1099511627775) (W : World) (hI : RdAt w0 g nm nn cn last W r) :
  Calls Tryz.prog 103 #[.pointer (some ⟨g, 0, none⟩)] W (Told w0 g nm nn cn last (.go (r.put 1).pop)) := by
 have HI := Aside0.mk hI
 clear hI
 have hpos0 := next_ws (by decide) hn
 have HW : Aside0 (1 ≤ (r.put 1).ws.length) := ⟨hpos0⟩
 have hlo : r.out.length ≤ 1099511627776 := by have h7 : r.out.length ≤ r.size := Nat.le_add_right _ _; omega
 have HX := Aside0.mk (fun W h => next_calls w0 g nm nn cn last r W h)
 have HP := Aside0.mk (fun W h => put_calls w0 g nm nn cn last r 1 hlo W h)
 have x0 : ((bytesB r.next).toList == ([116, 114, 117, 101] : List UInt8)) = false := by rw [bytes_eq, hn]; decide
 have x1 : ((bytesB r.next).toList == ([102, 97, 108, 115, 101] : List UInt8)) = true := by rw [bytes_eq, hn]; decide
 clear hn hlo hpos0
 go_enter Tryz.func103, Tryz.ntmps103
 go_wp2_with (first | (go_at_call 93; refine (HX.out _ HI.out).mono ?_; rintro e w' ⟨rfl, ⟨nd, rfl⟩⟩; have HI3 := Aside0.mk (RdAt.drewN HI.out nd)))
 go_at_call 80
 refine (HP.out _ HI3.out).mono ?_
 rintro e w' ⟨rfl, hK2⟩
 have K2 := Aside0.mk hK2
 clear hK2 HP
 obtain ⟨A, c, vo, hb, hg, hC, hc, hR, hB⟩ := K2.out
 have d1 : w'.cell? ⟨g, 1, none⟩ = some (.slice A (r.put 1).ws.length c) := (blk_cell hb 1).trans rfl
 have f1 := blk_frozen hb 1
 have hpos : 1 ≤ (r.put 1).ws.length := HW.out
 have g1 := eq_true (show (1 : Int) ≤ ((r.put 1).ws.length : Int) by omega)
 have g2 := eq_true (show ((r.put 1).ws.length : Int) ≤ (c : Int) by omega)
 have g3 := eq_true (show 1 ≤ (r.put 1).ws.length by omega)
 have g4 := eq_true (show (r.put 1).ws.length ≤ c by omega)
 by_cases hc1 : c = 1
 ·have HP0 := Aside0.mk (RdAt.pop_end hb hg hC hc hR hB hpos hc1)
  subst hc1
  have hl1 : Aside0 ((r.put 1).ws.length = 1) := ⟨by omega⟩
  rw [hl1.out] at d1
  clear hb hg hC hc hR hB hpos
  clear g1 g2 g3 g4
  go_wp2
  go_end0
  exact ⟨rfl, HP0.out⟩
 ·have HP0 := Aside0.mk (RdAt.pop_far hb hg hC hc hR hB hpos hc1)
  clear hb hg hC hc hR hB hpos
  go_wp2
  go_end0
  exact ⟨rfl, HP0.out⟩
set_option maxHeartbeats 4000000 in
set_option maxRecDepth 100000 in
theorem atom_word2 (w0 : World) (g : Nat) (nm : Option Addr) (nn cn : Nat) (last : Int) (r : Rd) (hn : r.next = [108, 97, 115, 116]) (hsz : r.size ≤ 1099511627775) (W : World) (hI : RdAt w0 g nm nn cn last W r) :
  Calls Tryz.prog 103 #[.pointer (some ⟨g, 0, none⟩)] W (Told w0 g nm nn cn last (.go (r.put 3).pop)) := by
 have HI := Aside0.mk hI
 clear hI
 have hpos0 := next_ws (by decide) hn
 have HW : Aside0 (1 ≤ (r.put 3).ws.length) := ⟨hpos0⟩
 have hlo : r.out.length ≤ 1099511627776 := by have h7 : r.out.length ≤ r.size := Nat.le_add_right _ _; omega
 have HX := Aside0.mk (fun W h => next_calls w0 g nm nn cn last r W h)
 have HP := Aside0.mk (fun W h => put_calls w0 g nm nn cn last r 3 hlo W h)
 have x0 : ((bytesB r.next).toList == ([116, 114, 117, 101] : List UInt8)) = false := by rw [bytes_eq, hn]; decide
 have x1 : ((bytesB r.next).toList == ([102, 97, 108, 115, 101] : List UInt8)) = false := by rw [bytes_eq, hn]; decide
 have x2 : ((bytesB r.next).toList == ([108, 97, 115, 116] : List UInt8)) = true := by rw [bytes_eq, hn]; decide
 clear hn hlo hpos0
 go_enter Tryz.func103, Tryz.ntmps103
 go_wp2_with (first | (go_at_call 93; refine (HX.out _ HI.out).mono ?_; rintro e w' ⟨rfl, ⟨nd, rfl⟩⟩; have HI3 := Aside0.mk (RdAt.drewN HI.out nd)))
 go_at_call 80
 refine (HP.out _ HI3.out).mono ?_
 rintro e w' ⟨rfl, hK2⟩
 have K2 := Aside0.mk hK2
 clear hK2 HP
 obtain ⟨A, c, vo, hb, hg, hC, hc, hR, hB⟩ := K2.out
 have d1 : w'.cell? ⟨g, 1, none⟩ = some (.slice A (r.put 3).ws.length c) := (blk_cell hb 1).trans rfl
 have f1 := blk_frozen hb 1
 have hpos : 1 ≤ (r.put 3).ws.length := HW.out
 have g1 := eq_true (show (1 : Int) ≤ ((r.put 3).ws.length : Int) by omega)
 have g2 := eq_true (show ((r.put 3).ws.length : Int) ≤ (c : Int) by omega)
 have g3 := eq_true (show 1 ≤ (r.put 3).ws.length by omega)
 have g4 := eq_true (show (r.put 3).ws.length ≤ c by omega)
 by_cases hc1 : c = 1
 ·have HP0 := Aside0.mk (RdAt.pop_end hb hg hC hc hR hB hpos hc1)
  subst hc1
  have hl1 : Aside0 ((r.put 3).ws.length = 1) := ⟨by omega⟩
  rw [hl1.out] at d1
  clear hb hg hC hc hR hB hpos
  clear g1 g2 g3 g4
  go_wp2
  go_end0
  exact ⟨rfl, HP0.out⟩
 ·have HP0 := Aside0.mk (RdAt.pop_far hb hg hC hc hR hB hpos hc1)
  clear hb hg hC hc hR hB hpos
  go_wp2
  go_end0
  exact ⟨rfl, HP0.out⟩
set_option maxHeartbeats 4000000 in
set_option maxRecDepth 100000 in
theorem atom_paren (names : List ByteArray) (w0 : World) (g : Nat) (nm : Option Addr) (nn cn : Nat) (last : Int) (n : Nat) (d_iff : Does names w0 g nm nn cn last n .iff)
  (r : Rd) (e : End) (hn : r.next = [40]) (hrun : thenDo (run names last n .iff r.pop) (fun r => r.want last [41] (fun r => some (.go r))) = some e) (hsz : r.size ≤ 1099511627775) (W : World) (hI : RdAt w0 g nm nn cn last W r) :
  Calls Tryz.prog 103 #[.pointer (some ⟨g, 0, none⟩)] W (Told w0 g nm nn cn last e) := by
 have HI := Aside0.mk hI
 clear hI
 have hps := pop_one (next_ws (by decide) hn)
 have HX := Aside0.mk (fun W h => next_calls w0 g nm nn cn last r W h)
 have W1 := Aside0.mk (show ∀ W, RdAt w0 g nm nn cn last W r → Calls Tryz.prog 97 #[.pointer (some ⟨g, 0, none⟩), .string (bytesB r.next)] W (Told w0 g nm nn cn last (.go r.pop)) from by
  intro W h
  have := want_calls w0 g nm nn cn last r [40] (by decide) W h
  unfold wantE at this
  rw [if_pos hn] at this
  rw [hn]
  exact this)
 have x0 : ((bytesB r.next).toList == ([116, 114, 117, 101] : List UInt8)) = false := by rw [bytes_eq, hn]; decide
 have x1 : ((bytesB r.next).toList == ([102, 97, 108, 115, 101] : List UInt8)) = false := by rw [bytes_eq, hn]; decide
 have x2 : ((bytesB r.next).toList == ([108, 97, 115, 116] : List UInt8)) = false := by rw [bytes_eq, hn]; decide
 have x3 : ((bytesB r.next).toList == ([40] : List UInt8)) = true := by rw [bytes_eq, hn]; decide
 clear hn
 cases h1 : run names last n .iff r.pop with
 | none => rw [h1] at hrun; cases hrun
 | some e1 =>
  rw [h1] at hrun
  have D1 := Aside0.mk (d_iff r.pop e1 h1 (by omega))
  cases e1 with
  | stop er a =>
   obtain rfl : e = .stop er a := by cases hrun; rfl
   clear hrun h1
   go_enter Tryz.func103, Tryz.ntmps103
   go_wp2_with (first | (go_at_call 93; refine (HX.out _ HI.out).mono ?_; rintro e w' ⟨rfl, ⟨nd, rfl⟩⟩; have HI3 := Aside0.mk (RdAt.drewN HI.out nd)) | (go_at_call 97; refine (W1.out _ HI3.out).mono ?_; rintro e w' ⟨rfl, hK1⟩; have K1 := Aside0.mk hK1; clear hK1 W1) | (go_at_call 48; refine (D1.out _ K1.out).mono ?_; rintro e w' ⟨rfl, hb⟩; unfold thrown))
   exact ⟨rfl, rfl, hb⟩
  | go r1 =>
   clear h1
   have hrun2 : (if r1.next = [41] then some (.go r1.pop) else some (r1.fail last 150)) = some e := hrun
   clear hrun
   have W2 := Aside0.mk (fun W h => want_calls w0 g nm nn cn last r1 [41] (by decide) W h)
   unfold wantE at W2
   by_cases hm : r1.next = [41]
   ·rw [if_pos hm] at hrun2 W2
    obtain rfl : e = .go r1.pop := by cases hrun2; rfl
    clear hrun2 hm
    go_enter Tryz.func103, Tryz.ntmps103
    go_wp2_with (first | (go_at_call 93; refine (HX.out _ HI.out).mono ?_; rintro e w' ⟨rfl, ⟨nd, rfl⟩⟩; have HI3 := Aside0.mk (RdAt.drewN HI.out nd)) | (go_at_call 97; refine (W1.out _ HI3.out).mono ?_; rintro e w' ⟨rfl, hK1⟩; have K1 := Aside0.mk hK1; clear hK1 W1) | (go_at_call 48; refine (D1.out _ K1.out).mono ?_; rintro e w' ⟨rfl, hK2⟩; have K2 := Aside0.mk hK2; clear hK2 D1) | (go_at_call 97; refine (W2.out _ K2.out).mono ?_; rintro e w' ⟨rfl, hK3⟩; have K3 := Aside0.mk hK3; clear hK3 W2))
    go_end0
    exact ⟨rfl, K3.out⟩
   ·rw [if_neg hm] at hrun2 W2
    obtain rfl : e = r1.fail last 150 := by cases hrun2; rfl
    clear hrun2 hm
    go_enter Tryz.func103, Tryz.ntmps103
    go_wp2_with (first | (go_at_call 93; refine (HX.out _ HI.out).mono ?_; rintro e w' ⟨rfl, ⟨nd, rfl⟩⟩; have HI3 := Aside0.mk (RdAt.drewN HI.out nd)) | (go_at_call 97; refine (W1.out _ HI3.out).mono ?_; rintro e w' ⟨rfl, hK1⟩; have K1 := Aside0.mk hK1; clear hK1 W1) | (go_at_call 48; refine (D1.out _ K1.out).mono ?_; rintro e w' ⟨rfl, hK2⟩; have K2 := Aside0.mk hK2; clear hK2 D1) | (go_at_call 97; refine (W2.out _ K2.out).mono ?_; rintro e w' ⟨rfl, hb⟩; unfold thrown))
    exact ⟨rfl, rfl, hb⟩
theorem ws_next {r : Rd} (h : r.next ≠ []) : 1 ≤ r.ws.length := by
 rcases Nat.eq_zero_or_pos r.ws.length with h0 | h0
 ·exact absurd (next_nil (List.length_eq_zero_iff.1 h0)) h
 ·exact h0
/-- What name tells, ahead of the last step. -/
theorem name_cases (names : List ByteArray) (last : Int) (r : Rd) : (r.next = [] ∧ r.name names last = some (r.fail last 150)) ∨ (r.next ≠ [] ∧ (rd_T114 r.ws 0).f0 ≠ 2 ∧ r.name names last = some (r.fail last 150)) ∨
  (r.next ≠ [] ∧ (rd_T114 r.ws 0).f0 = 2 ∧ idxI names r.next = -1 ∧ r.name names last = some (r.fail last 6)) ∨ (∃ i : Nat, i < names.length ∧ r.next ≠ [] ∧ (rd_T114 r.ws 0).f0 = 2 ∧ idxI names r.next = (i : Int) ∧ r.name names last = some (.go (⟨r.ws, r.out ++ [(⟨2, (i : Int)⟩ : Tk)]⟩ : Rd).pop)) := by
 unfold Rd.name Rd.next rd_T114 idxI
 cases hw : r.ws with
 | nil => exact .inl ⟨rfl, rfl⟩
 | cons w t =>
  simp only
  rw [show (List.getD (w :: t) (Int.toNat 0) z114) = w from rfl]
  by_cases h1 : w.f1.data.toList = []
  ·exact .inl ⟨h1, by rw [if_pos (.inl h1)]⟩
  by_cases h2 : w.f0 = 2
  ·rw [if_neg (by rw [not_or]; exact ⟨h1, fun h => h h2⟩)]
   cases h3 : placeOf names w.f1.data.toList with
   | none => exact .inr (.inr (.inl ⟨h1, h2, rfl, rfl⟩))
   | some i =>
    refine .inr (.inr (.inr ⟨i, ?_, h1, h2, rfl, rfl⟩))
    unfold placeOf at h3
    rw [List.findIdx?_eq_some_iff_getElem] at h3
    exact h3.1
  ·exact .inr (.inl ⟨h1, h2, by rw [if_pos (.inr h2)]⟩)
set_option maxHeartbeats 4000000 in
set_option maxRecDepth 100000 in
theorem atom_bad (w0 : World) (g : Nat) (nm : Option Addr) (nn cn : Nat) (last : Int) (r : Rd) (er : Int) (n0 : ¬ r.next = [116, 114, 117, 101]) (n1 : ¬ r.next = [102, 97, 108, 115, 101]) (n2 : ¬ r.next = [108, 97, 115, 116]) (n3 : ¬ r.next = [40])
  (HNM0 : ∀ W, RdAt w0 g nm nn cn last W r → Calls Tryz.prog 104 #[.pointer (some ⟨g, 0, none⟩), .string (bytesB r.next)] W (Told w0 g nm nn cn last (r.fail last er))) (W : World) (hI : RdAt w0 g nm nn cn last W r) :
  Calls Tryz.prog 103 #[.pointer (some ⟨g, 0, none⟩)] W (Told w0 g nm nn cn last (r.fail last er)) := by
 have HI := Aside0.mk hI
 have HN := Aside0.mk HNM0
 clear hI HNM0
 have HX := Aside0.mk (fun W h => next_calls w0 g nm nn cn last r W h)
 have x0 : ((bytesB r.next).toList == ([116, 114, 117, 101] : List UInt8)) = false := by rw [bytes_eq, beq_eq_false_iff_ne]; exact n0
 have x1 : ((bytesB r.next).toList == ([102, 97, 108, 115, 101] : List UInt8)) = false := by rw [bytes_eq, beq_eq_false_iff_ne]; exact n1
 have x2 : ((bytesB r.next).toList == ([108, 97, 115, 116] : List UInt8)) = false := by rw [bytes_eq, beq_eq_false_iff_ne]; exact n2
 have x3 : ((bytesB r.next).toList == ([40] : List UInt8)) = false := by rw [bytes_eq, beq_eq_false_iff_ne]; exact n3
 clear n0 n1 n2 n3
 go_enter Tryz.func103, Tryz.ntmps103
 go_wp2_with (first | (go_at_call 93; refine (HX.out _ HI.out).mono ?_; rintro e w' ⟨rfl, ⟨nd, rfl⟩⟩; have HI3 := Aside0.mk (RdAt.drewN HI.out nd)) | (go_at_call 104; refine (HN.out _ HI3.out).mono ?_; rintro e w' ⟨rfl, hb⟩; unfold thrown))
 exact ⟨rfl, rfl, hb⟩
set_option maxHeartbeats 4000000 in
set_option maxRecDepth 100000 in
theorem atom_found (w0 : World) (g : Nat) (nm : Option Addr) (nn cn : Nat) (last : Int) (r q : Rd) (n0 : ¬ r.next = [116, 114, 117, 101]) (n1 : ¬ r.next = [102, 97, 108, 115, 101]) (n2 : ¬ r.next = [108, 97, 115, 116]) (n3 : ¬ r.next = [40]) (hq : 1 ≤ q.ws.length)
  (HNM0 : ∀ W, RdAt w0 g nm nn cn last W r → Calls Tryz.prog 104 #[.pointer (some ⟨g, 0, none⟩), .string (bytesB r.next)] W (Told w0 g nm nn cn last (.go q))) (W : World) (hI : RdAt w0 g nm nn cn last W r) :
  Calls Tryz.prog 103 #[.pointer (some ⟨g, 0, none⟩)] W (Told w0 g nm nn cn last (.go q.pop)) := by
 have HI := Aside0.mk hI
 have HN := Aside0.mk HNM0
 have HW := Aside0.mk hq
 clear hI HNM0 hq
 have HX := Aside0.mk (fun W h => next_calls w0 g nm nn cn last r W h)
 have x0 : ((bytesB r.next).toList == ([116, 114, 117, 101] : List UInt8)) = false := by rw [bytes_eq, beq_eq_false_iff_ne]; exact n0
 have x1 : ((bytesB r.next).toList == ([102, 97, 108, 115, 101] : List UInt8)) = false := by rw [bytes_eq, beq_eq_false_iff_ne]; exact n1
 have x2 : ((bytesB r.next).toList == ([108, 97, 115, 116] : List UInt8)) = false := by rw [bytes_eq, beq_eq_false_iff_ne]; exact n2
 have x3 : ((bytesB r.next).toList == ([40] : List UInt8)) = false := by rw [bytes_eq, beq_eq_false_iff_ne]; exact n3
 clear n0 n1 n2 n3
 go_enter Tryz.func103, Tryz.ntmps103
 go_wp2_with (first | (go_at_call 93; refine (HX.out _ HI.out).mono ?_; rintro e w' ⟨rfl, ⟨nd, rfl⟩⟩; have HI3 := Aside0.mk (RdAt.drewN HI.out nd)))
 go_at_call 104
 refine (HN.out _ HI3.out).mono ?_
 rintro e w' ⟨rfl, hK2⟩
 have K2 := Aside0.mk hK2
 clear hK2 HN
 obtain ⟨A, c, vo, hb, hg, hC, hc, hR, hB⟩ := K2.out
 have d1 : w'.cell? ⟨g, 1, none⟩ = some (.slice A (q).ws.length c) := (blk_cell hb 1).trans rfl
 have f1 := blk_frozen hb 1
 have hpos : 1 ≤ (q).ws.length := HW.out
 have g1 := eq_true (show (1 : Int) ≤ ((q).ws.length : Int) by omega)
 have g2 := eq_true (show ((q).ws.length : Int) ≤ (c : Int) by omega)
 have g3 := eq_true (show 1 ≤ (q).ws.length by omega)
 have g4 := eq_true (show (q).ws.length ≤ c by omega)
 by_cases hc1 : c = 1
 ·have HP0 := Aside0.mk (RdAt.pop_end hb hg hC hc hR hB hpos hc1)
  subst hc1
  have hl1 : Aside0 ((q).ws.length = 1) := ⟨by omega⟩
  rw [hl1.out] at d1
  clear hb hg hC hc hR hB hpos
  clear g1 g2 g3 g4
  go_wp2
  go_end0
  exact ⟨rfl, HP0.out⟩
 ·have HP0 := Aside0.mk (RdAt.pop_far hb hg hC hc hR hB hpos hc1)
  clear hb hg hC hc hR hB hpos
  go_wp2
  go_end0
  exact ⟨rfl, HP0.out⟩
theorem atom_does (names : List ByteArray) (w0 : World) (g : Nat) (nm : Option Addr) (cn : Nat) (last : Int) (hN : Kd.C Kd.string w0 nm names.length names) (hcn : names.length ≤ cn) (hl : names.length ≤ 8) (n : Nat) (d_iff : Does names w0 g nm names.length cn last n .iff) : Does names w0 g nm names.length cn last (n + 1) .atom := by
 intro r e hrun hsz W hI
 rw [run] at hrun
 show Calls Tryz.prog 103 _ W _
 by_cases n0 : r.next = [116, 114, 117, 101]
 ·rw [if_pos n0] at hrun; obtain rfl : e = .go (r.put 0).pop := by cases hrun; rfl
  exact atom_word0 w0 g nm _ cn last r n0 hsz W hI
 rw [if_neg n0] at hrun
 by_cases n1 : r.next = [102, 97, 108, 115, 101]
 ·rw [if_pos n1] at hrun; obtain rfl : e = .go (r.put 1).pop := by cases hrun; rfl
  exact atom_word1 w0 g nm _ cn last r n1 hsz W hI
 rw [if_neg n1] at hrun
 by_cases n2 : r.next = [108, 97, 115, 116]
 ·rw [if_pos n2] at hrun; obtain rfl : e = .go (r.put 3).pop := by cases hrun; rfl
  exact atom_word2 w0 g nm _ cn last r n2 hsz W hI
 rw [if_neg n2] at hrun
 by_cases n3 : r.next = [40]
 ·rw [if_pos n3] at hrun; exact atom_paren names w0 g nm _ cn last n d_iff r e n3 hrun hsz W hI
 rw [if_neg n3] at hrun
 have hlo : r.out.length ≤ 1099511627776 := by have h7 : r.out.length ≤ r.size := Nat.le_add_right _ _; omega
 rcases name_cases names last r with ⟨h1, h⟩ | ⟨h1, h2, h⟩ | ⟨h1, h2, h3, h⟩ | ⟨i, hi, h1, h2, h3, h⟩
 ·rw [h] at hrun; cases hrun
  exact atom_bad w0 g nm _ cn last r 150 n0 n1 n2 n3 (fun W hI => name_empty w0 g nm _ cn last r h1 W hI) W hI
 ·rw [h] at hrun; cases hrun
  exact atom_bad w0 g nm _ cn last r 150 n0 n1 n2 n3 (fun W hI => name_sort w0 g nm _ cn last r h1 h2 W hI) W hI
 ·rw [h] at hrun; cases hrun
  exact atom_bad w0 g nm _ cn last r 6 n0 n1 n2 n3 (fun W hI => name_missing names w0 g nm cn last hN hcn hl r h1 h2 h3 W hI) W hI
 ·rw [h] at hrun; cases hrun
  exact atom_found w0 g nm _ cn last r ⟨r.ws, r.out ++ [(⟨2, (i : Int)⟩ : Tk)]⟩ n0 n1 n2 n3 (ws_next h1) (fun W hI => name_found names w0 g nm cn last hN hcn hl r h1 h2 i (by omega) h3 hlo W hI) W hI
/-- A method of its own, no loop inside one. -/
def real : Nt → Bool
 | .moreIff => false | .moreOr => false | .moreAnd => false | .morePlus => false | .moreSeq => false | .stars => false | _ => true
theorem all_does (names : List ByteArray) (w0 : World) (g : Nat) (nm : Option Addr) (cn : Nat) (last : Int) (hN : Kd.C Kd.string w0 nm names.length names) (hcn : names.length ≤ cn) (hl : names.length ≤ 8) (n : Nat) :
  ∀ m, m ≤ n → ∀ nt, real nt = true → Does names w0 g nm names.length cn last m nt := by
 induction n with
 | zero =>
  intro m hm nt hr r e h
  obtain rfl : m = 0 := by omega
  rw [run] at h; cases h
 | succ n ih =>
  intro m hm nt hr
  rcases Nat.lt_or_ge m (n + 1) with h | h
  ·exact ih m (by omega) nt hr
  obtain rfl : m = n + 1 := by omega
  cases nt with
  | iff => exact iff_does names w0 g nm _ cn last n (fun m _ => run_slim names last m _) (fun m h => ih m h _ rfl)
  | or => exact or_does names w0 g nm _ cn last n (fun m _ => run_slim names last m _) (fun m h => ih m h _ rfl)
  | and => exact and_does names w0 g nm _ cn last n (fun m _ => run_slim names last m _) (fun m h => ih m h _ rfl)
  | plus => exact plus_does names w0 g nm _ cn last n (fun m _ => run_slim names last m _) (fun m h => ih m h _ rfl)
  | seq => exact seq_does names w0 g nm _ cn last n (fun m _ => run_slim names last m _) (fun m h => ih m h _ rfl)
  | imp => exact imp_does names w0 g nm _ cn last n (run_slim names last n _) (run_slim names last n _) (ih n (Nat.le_refl _) _ rfl) (ih n (Nat.le_refl _) _ rfl)
  | til => exact til_does names w0 g nm _ cn last n (ih n (Nat.le_refl _) _ rfl) (ih n (Nat.le_refl _) _ rfl)
  | unary => exact unary_does names w0 g nm _ cn last n (ih n (Nat.le_refl _) _ rfl) (ih n (Nat.le_refl _) _ rfl) (ih n (Nat.le_refl _) _ rfl)
  | atom => exact atom_does names w0 g nm cn last hN hcn hl n (ih n (Nat.le_refl _) _ rfl)
  | star => exact star_does names w0 g nm _ cn last n (ih n (Nat.le_refl _) _ rfl)
  | bare => exact bare_does names w0 g nm _ cn last n (ih n (Nat.le_refl _) _ rfl) (ih n (Nat.le_refl _) _ rfl) (ih n (Nat.le_refl _) _ rfl)
  | _ => cases hr
end Go.Proofs.YtaogoabnidbbpaaGreatDoor.PText
