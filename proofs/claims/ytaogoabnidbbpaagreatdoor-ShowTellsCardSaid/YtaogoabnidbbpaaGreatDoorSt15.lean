/- Texts of this work merged into one file, what the law does not need left out: TextTokA; TextTokB; TextTokC; TextSteps; TextShow2. Conditions stand in each law. -/
import Derived.Test.YtaogoabnidbbpaaGreatDoorSt13
import Derived.Test.YtaogoabnidbbpaaGreatDoorSt14
namespace Go.Proofs.YtaogoabnidbbpaaGreatDoor.PText
open Go.RowKit Go.Proofs.YtaogoabnidbbpaaGreatDoorW.PrintWords Go.Proofs.YtaogoabnidbbpaaGreatDoorW.PrintLast Go.Proofs.YtaogoabnidbbpaaGreatDoorW.PrintMore Go.Proofs.YtaogoabnidbbpaaGreatDoorW.Aid
set_option linter.unusedVariables false
set_option linter.unusedSimpArgs false
set_option maxHeartbeats 16000000 in
set_option maxRecDepth 100000 in
theorem tok_0 (w0 : World) (g : Nat) (nm : Option Addr) (nn cn : Nat) (st : List S61) (lg : Bool) (arg : Int) (hlen : st.length ≤ 900) (W : World) (h : WkAt w0 g nm nn cn W st lg) :
  Calls Tryz.prog 27 #[.pointer (some ⟨g, 0, none⟩), .agg #[.int .u8 0, .int .u8 arg]] W fun e w' => e = .returned (.tuple #[]) ∧ WkAt w0 g nm nn cn w' (putP st ⟨#[116, 114, 117, 101]⟩ 7) (putLg lg ⟨#[116, 114, 117, 101]⟩) := by
 have HWK := Aside0.mk h
 have HL := Aside0.mk hlen
 obtain ⟨vs, hb, hg, hR, hB⟩ := h
 have c0 : W.cell? ⟨g, 1, none⟩ = some (.string ⟨#[116, 114, 117, 101]⟩) := (blk_cell hb 1).trans rfl
 have c1 : W.cell? ⟨g, 2, none⟩ = some (.int .i64 7) := (blk_cell hb 2).trans rfl
 have c2 : W.cell? ⟨g, 3, none⟩ = some (.int .i64 0) := (blk_cell hb 3).trans rfl
 have c3 : W.cell? ⟨g, 4, none⟩ = some (.int .i64 0) := (blk_cell hb 4).trans rfl
 have hlt := blk_lt hb
 clear hg hR hB hb hlen
 go_enter Tryz.func27, Tryz.ntmps27
 have hlt0 := Aside0.mk hlt
 go_wp2_with fail
 go_region
 go_wp2_with ((go_at_call 38; refine (put_at w0 g nm nn cn st lg _ _ (by have := HL.out; omega) W _ HWK.out (by first | exact Below.refl _ _ | (with_reducible repeat (first | exact Below.refl _ _ | apply pw_below_drewN | apply below_drew1 | apply below_alloc)))).mono ?_; rintro e w' ⟨rfl, hwk, hf1, hf2⟩; have HPK := Aside0.mk hwk; clear hwk hf1 hf2))
 go_end0
 exact ⟨rfl, HPK.out⟩
 done
set_option maxHeartbeats 16000000 in
set_option maxRecDepth 100000 in
theorem tok_1 (w0 : World) (g : Nat) (nm : Option Addr) (nn cn : Nat) (st : List S61) (lg : Bool) (arg : Int) (hlen : st.length ≤ 900) (W : World) (h : WkAt w0 g nm nn cn W st lg) :
  Calls Tryz.prog 27 #[.pointer (some ⟨g, 0, none⟩), .agg #[.int .u8 1, .int .u8 arg]] W fun e w' => e = .returned (.tuple #[]) ∧ WkAt w0 g nm nn cn w' (putP st ⟨#[102, 97, 108, 115, 101]⟩ 7) (putLg lg ⟨#[102, 97, 108, 115, 101]⟩) := by
 have HWK := Aside0.mk h
 have HL := Aside0.mk hlen
 obtain ⟨vs, hb, hg, hR, hB⟩ := h
 have c0 : W.cell? ⟨g, 5, none⟩ = some (.string ⟨#[102, 97, 108, 115, 101]⟩) := (blk_cell hb 5).trans rfl
 have c1 : W.cell? ⟨g, 6, none⟩ = some (.int .i64 7) := (blk_cell hb 6).trans rfl
 have c2 : W.cell? ⟨g, 7, none⟩ = some (.int .i64 0) := (blk_cell hb 7).trans rfl
 have c3 : W.cell? ⟨g, 8, none⟩ = some (.int .i64 0) := (blk_cell hb 8).trans rfl
 have hlt := blk_lt hb
 clear hg hR hB hb hlen
 go_enter Tryz.func27, Tryz.ntmps27
 have hlt0 := Aside0.mk hlt
 go_wp2_with fail
 go_region
 go_wp2_with ((go_at_call 38; refine (put_at w0 g nm nn cn st lg _ _ (by have := HL.out; omega) W _ HWK.out (by first | exact Below.refl _ _ | (with_reducible repeat (first | exact Below.refl _ _ | apply pw_below_drewN | apply below_drew1 | apply below_alloc)))).mono ?_; rintro e w' ⟨rfl, hwk, hf1, hf2⟩; have HPK := Aside0.mk hwk; clear hwk hf1 hf2))
 go_end0
 exact ⟨rfl, HPK.out⟩
 done
set_option maxHeartbeats 16000000 in
set_option maxRecDepth 100000 in
theorem tok_3 (w0 : World) (g : Nat) (nm : Option Addr) (nn cn : Nat) (st : List S61) (lg : Bool) (arg : Int) (hlen : st.length ≤ 900) (W : World) (h : WkAt w0 g nm nn cn W st lg) :
  Calls Tryz.prog 27 #[.pointer (some ⟨g, 0, none⟩), .agg #[.int .u8 3, .int .u8 arg]] W fun e w' => e = .returned (.tuple #[]) ∧ WkAt w0 g nm nn cn w' (putP st ⟨#[108, 97, 115, 116]⟩ 7) (putLg lg ⟨#[108, 97, 115, 116]⟩) := by
 have HWK := Aside0.mk h
 have HL := Aside0.mk hlen
 obtain ⟨vs, hb, hg, hR, hB⟩ := h
 have c0 : W.cell? ⟨g, 13, none⟩ = some (.string ⟨#[108, 97, 115, 116]⟩) := (blk_cell hb 13).trans rfl
 have c1 : W.cell? ⟨g, 14, none⟩ = some (.int .i64 7) := (blk_cell hb 14).trans rfl
 have c2 : W.cell? ⟨g, 15, none⟩ = some (.int .i64 0) := (blk_cell hb 15).trans rfl
 have c3 : W.cell? ⟨g, 16, none⟩ = some (.int .i64 0) := (blk_cell hb 16).trans rfl
 have hlt := blk_lt hb
 clear hg hR hB hb hlen
 go_enter Tryz.func27, Tryz.ntmps27
 have hlt0 := Aside0.mk hlt
 go_wp2_with fail
 go_region
 go_wp2_with ((go_at_call 38; refine (put_at w0 g nm nn cn st lg _ _ (by have := HL.out; omega) W _ HWK.out (by first | exact Below.refl _ _ | (with_reducible repeat (first | exact Below.refl _ _ | apply pw_below_drewN | apply below_drew1 | apply below_alloc)))).mono ?_; rintro e w' ⟨rfl, hwk, hf1, hf2⟩; have HPK := Aside0.mk hwk; clear hwk hf1 hf2))
 go_end0
 exact ⟨rfl, HPK.out⟩
 done
set_option maxHeartbeats 16000000 in
set_option maxRecDepth 100000 in
theorem tok_2 (w0 : World) (g : Nat) (nm : Option Addr) (names : List ByteArray) (cn : Nat) (st : List S61) (lg : Bool) (k : Nat) (hk : k < names.length) (hk2 : k < 256) (hnm : Kd.C Kd.string w0 nm names.length names) (hlen : st.length ≤ 900) (W : World) (h : WkAt w0 g nm names.length cn W st lg) :
  Calls Tryz.prog 27 #[.pointer (some ⟨g, 0, none⟩), .agg #[.int .u8 2, .int .u8 k]] W fun e w' => e = .returned (.tuple #[]) ∧ WkAt w0 g nm names.length cn w' (putP st (names.getD k ⟨#[]⟩) 7) (putLg lg (names.getD k ⟨#[]⟩)) := by
 have HWK := Aside0.mk h
 have HL := Aside0.mk hlen
 obtain ⟨an, ean, en⟩ := name_at hnm k hk
 subst ean
 obtain ⟨vs, hb, hg, hR, hB⟩ := h
 have c0 : W.cell? ⟨g, 9, none⟩ = some (.string ⟨#[]⟩) := (blk_cell hb 9).trans rfl
 have c1 : W.cell? ⟨g, 10, none⟩ = some (.int .i64 0) := (blk_cell hb 10).trans rfl
 have c2 : W.cell? ⟨g, 11, none⟩ = some (.int .i64 0) := (blk_cell hb 11).trans rfl
 have c3 : W.cell? ⟨g, 12, none⟩ = some (.int .i64 0) := (blk_cell hb 12).trans rfl
 have n0 : W.cell? ⟨g, 0, none⟩ = some (.slice (some an) names.length cn) := (blk_cell hb 0).trans rfl
 have n1 : W.cell? (an.add k) = some (.string (names.getD k ⟨#[]⟩)) := below_cell en hB
 have n2 := eq_true hk
 have n3 : (k : Int) % 256 = k := by omega
 obtain ⟨nt, hnt⟩ : ∃ nt, nt = names.getD k ⟨#[]⟩ := ⟨_, rfl⟩
 rw [← hnt]
 rw [← hnt] at n1 en
 have EN := Aside0.mk en
 clear hnt en hnm
 have hlt := blk_lt hb
 clear hg hR hB hb hlen
 go_enter Tryz.func27, Tryz.ntmps27
 have hlt0 := Aside0.mk hlt
 go_wp2_with fail
 go_region
 go_wp2_with fail
 go_region_held3 (fun w' => w'.cell? ⟨g, 0, none⟩ = some (.slice (some an) names.length cn) ∧ w'.cell? (an.add k) = some (.string nt) ∧ w'.cell? ⟨W.heap.size, 1, none⟩ = some (.int .u8 k)) (first | exact ⟨by assumption, by assumption, by assumption⟩ | go_keep) ((go_at_call 38; refine (put_prop w0 g an names cn st lg _ _ (by have := HL.out; omega) W _ HWK.out (by first | exact Below.refl _ _ | (with_reducible repeat (first | exact Below.refl _ _ | apply pw_below_drewN | apply below_drew1 | apply below_alloc))) k _ EN.out _ _ (blk_drew (blk_drew (blk_alloc (blk_new W (.cells #[.int .u8 2, .int .u8 k] 41)) _))) rfl).mono ?_; rintro e w' ⟨rfl, hwk, z0, z1, z2⟩; have HPK := Aside0.mk hwk; clear hwk))
 go_wp2_with fail
 go_end0
 exact ⟨rfl, HPK.out⟩
 done
set_option maxHeartbeats 16000000 in
set_option maxRecDepth 100000 in
theorem tok_19 (w0 : World) (g : Nat) (nm : Option Addr) (nn cn : Nat) (st : List S61) (x : S61) (lg : Bool) (arg : Int) (hlen : st.length ≤ 900) (ha : x.f0.size ≤ 4096) (W : World) (h : WkAt w0 g nm nn cn W (st ++ [x]) lg) :
  Calls Tryz.prog 27 #[.pointer (some ⟨g, 0, none⟩), .agg #[.int .u8 19, .int .u8 arg]] W fun e w' => e = .returned (.tuple #[]) ∧ WkAt w0 g nm nn cn w' (putP st ((⟨#[123]⟩ ++ x.f0) ++ ⟨#[125]⟩) 4) (putLg lg ((⟨#[123]⟩ ++ x.f0) ++ ⟨#[125]⟩)) := by
 have HWK := Aside0.mk h
 have HL := Aside0.mk hlen
 obtain ⟨vs, hb, hg, hR, hB⟩ := h
 have c0 : W.cell? ⟨g, 77, none⟩ = some (.string ⟨#[125]⟩) := (blk_cell hb 77).trans rfl
 have c1 : W.cell? ⟨g, 78, none⟩ = some (.int .i64 4) := (blk_cell hb 78).trans rfl
 have c2 : W.cell? ⟨g, 79, none⟩ = some (.int .i64 0) := (blk_cell hb 79).trans rfl
 have c3 : W.cell? ⟨g, 80, none⟩ = some (.int .i64 0) := (blk_cell hb 80).trans rfl
 have hlt := blk_lt hb
 clear hg hR hB hb hlen
 go_enter Tryz.func27, Tryz.ntmps27
 have hlt0 := Aside0.mk hlt
 go_wp2_with fail
 go_region
 go_wp2_with (first | (go_at_call 28; (refine (take_at w0 g nm nn cn st x lg (by have := HL.out; first | omega | (simp only [List.length_append, List.length_cons, List.length_nil]; omega)) W _ HWK.out (by first | exact Below.refl _ _ | (with_reducible repeat (first | exact Below.refl _ _ | apply pw_below_drewN | apply below_drew1 | apply below_alloc)))).mono ?_; rintro e w1 ⟨rfl, hwk, hfr⟩; have HW1 := Aside0.mk hwk; have B4 : w1.heap[W.heap.size + 1]? = some (.cells #[.string ⟨#[125]⟩, .int .i64 4, .int .i64 0, .int .i64 0] 53) := hfr _ _ (blk_drew (blk_new2 W _ _)) (by have := hlt0.out; omega); clear hwk hfr HWK; have q2 := blk_lt B4; have q3 : W.heap.size + 1 ≠ w1.heap.size := (by omega); have dw140 : w1.cell? ⟨W.heap.size + 1, 0, none⟩ = some (.string ⟨#[125]⟩) := (blk_cell B4 0).trans rfl; have dw141 : w1.cell? ⟨W.heap.size + 1, 1, none⟩ = some (.int .i64 4) := (blk_cell B4 1).trans rfl; have dw142 : w1.cell? ⟨W.heap.size + 1, 2, none⟩ = some (.int .i64 0) := (blk_cell B4 2).trans rfl; have dw143 : w1.cell? ⟨W.heap.size + 1, 3, none⟩ = some (.int .i64 0) := (blk_cell B4 3).trans rfl)) | (go_at_call 38; refine (put_at w0 g nm nn cn st lg _ _ (by have := HL.out; omega) w1 _ HW1.out (by first | exact Below.refl _ _ | (with_reducible repeat (first | exact Below.refl _ _ | apply pw_below_drewN | apply below_drew1 | apply below_alloc)))).mono ?_; rintro e w' ⟨rfl, hwk, hf1, hf2⟩; have HPK := Aside0.mk hwk; clear hwk hf1 hf2))
 go_end0
 exact ⟨rfl, HPK.out⟩
 done
set_option maxHeartbeats 16000000 in
set_option maxRecDepth 100000 in
theorem tok_23 (w0 : World) (g : Nat) (nm : Option Addr) (nn cn : Nat) (st : List S61) (x : S61) (lg : Bool) (arg : Int) (hlen : st.length ≤ 900) (ta : ByteArray) (ha : show_piece_within.f x.f0 x.f1 3 = some ta) (sa : ta.size ≤ 4098) (W : World) (h : WkAt w0 g nm nn cn W (st ++ [x]) lg) :
  Calls Tryz.prog 27 #[.pointer (some ⟨g, 0, none⟩), .agg #[.int .u8 23, .int .u8 arg]] W fun e w' => e = .returned (.tuple #[]) ∧ WkAt w0 g nm nn cn w' (putP st (ta ++ ⟨#[42]⟩) 3) (putLg lg (ta ++ ⟨#[42]⟩)) := by
 have HWK := Aside0.mk h
 have HL := Aside0.mk hlen
 obtain ⟨vs, hb, hg, hR, hB⟩ := h
 have c0 : W.cell? ⟨g, 93, none⟩ = some (.string ⟨#[42]⟩) := (blk_cell hb 93).trans rfl
 have c1 : W.cell? ⟨g, 94, none⟩ = some (.int .i64 3) := (blk_cell hb 94).trans rfl
 have c2 : W.cell? ⟨g, 95, none⟩ = some (.int .i64 3) := (blk_cell hb 95).trans rfl
 have c3 : W.cell? ⟨g, 96, none⟩ = some (.int .i64 0) := (blk_cell hb 96).trans rfl
 have hlt := blk_lt hb
 have z0 : (9223372036854775807 < ta.size + 1) = False := eq_false (by omega)
 have zd0 : decide (9223372036854775807 < ta.size + 1) = false := decide_eq_false (by omega)
 clear hg hR hB hb hlen
 go_enter Tryz.func27, Tryz.ntmps27
 have hlt0 := Aside0.mk hlt
 go_wp2_with fail
 go_region
 go_wp2_with ((go_at_call 28; (refine (take_at w0 g nm nn cn st x lg (by have := HL.out; first | omega | (simp only [List.length_append, List.length_cons, List.length_nil]; omega)) W _ HWK.out (by first | exact Below.refl _ _ | (with_reducible repeat (first | exact Below.refl _ _ | apply pw_below_drewN | apply below_drew1 | apply below_alloc)))).mono ?_; rintro e w1 ⟨rfl, hwk, hfr⟩; have HW1 := Aside0.mk hwk; have B4 : w1.heap[W.heap.size + 1]? = some (.cells #[.string ⟨#[42]⟩, .int .i64 3, .int .i64 3, .int .i64 0] 53) := hfr _ _ (blk_drew (blk_new2 W _ _)) (by have := hlt0.out; omega); clear hwk hfr HWK)))
 obtain ⟨wv, hwv⟩ : ∃ wv, wv = w1.alloc (.cells #[.string x.f0, .int .i64 x.f1] 61) := ⟨_, rfl⟩
 have C5 : wv.heap[w1.heap.size]? = some (.cells #[.string x.f0, .int .i64 x.f1] 61) := by rw [hwv]; exact blk_new _ _
 have C4 : wv.heap[W.heap.size + 1]? = some (.cells #[.string ⟨#[42]⟩, .int .i64 3, .int .i64 3, .int .i64 0] 53) := by rw [hwv]; exact blk_alloc B4 _
 have HB3 : Aside0 (Below w1.heap.size w1 wv) := ⟨by rw [hwv]; exact below_alloc (Below.refl _ _) _⟩
 rw [← hwv]
 clear hwv B4
 have hne : W.heap.size + 1 ≠ g := by have := hlt0.out; omega
 have dwv40 : wv.cell? ⟨W.heap.size + 1, 0, none⟩ = some (.string ⟨#[42]⟩) := (blk_cell C4 0).trans rfl
 have dwv41 : wv.cell? ⟨W.heap.size + 1, 1, none⟩ = some (.int .i64 3) := (blk_cell C4 1).trans rfl
 have dwv42 : wv.cell? ⟨W.heap.size + 1, 2, none⟩ = some (.int .i64 3) := (blk_cell C4 2).trans rfl
 have dwv43 : wv.cell? ⟨W.heap.size + 1, 3, none⟩ = some (.int .i64 0) := (blk_cell C4 3).trans rfl
 have dwvp0 : wv.cell? ⟨w1.heap.size, 0, none⟩ = some (.string x.f0) := (blk_cell C5 0).trans rfl
 have dwvq0 : wv.cell? ⟨w1.heap.size, 1, none⟩ = some (.int .i64 x.f1) := (blk_cell C5 1).trans rfl
 go_region_held3 (fun w' => w'.cell? ⟨W.heap.size + 1, 0, none⟩ = some (.string ⟨#[42]⟩) ∧ w'.cell? ⟨W.heap.size + 1, 1, none⟩ = some (.int .i64 3) ∧ w'.cell? ⟨W.heap.size + 1, 2, none⟩ = some (.int .i64 3) ∧ w'.cell? ⟨W.heap.size + 1, 3, none⟩ = some (.int .i64 0) ∧ w'.cell? ⟨w1.heap.size, 0, none⟩ = some (.string x.f0) ∧ w'.cell? ⟨w1.heap.size, 1, none⟩ = some (.int .i64 x.f1)) (first | exact ⟨by assumption, by assumption, by assumption, by assumption, by assumption, by assumption⟩ | go_keep) ((first | (go_at_call 39; with_reducible refine (show_piece_within.calls _ _ _ _ _ ha).mono ?_; rintro e wq ⟨rfl, hq⟩; replace C4 := (hq.block _ (blk_lt C4)).trans C4; replace C5 := (hq.block _ (blk_lt C5)).trans C5; replace HB3 : Aside0 (Below w1.heap.size w1 wq) := ⟨by first | exact below_step HB3.out hq | exact below_step (below_drew1 HB3.out) hq⟩; clear hq; have dwq40 : wq.cell? ⟨W.heap.size + 1, 0, none⟩ = some (.string ⟨#[42]⟩) := (blk_cell C4 0).trans rfl; have dwq41 : wq.cell? ⟨W.heap.size + 1, 1, none⟩ = some (.int .i64 3) := (blk_cell C4 1).trans rfl; have dwq42 : wq.cell? ⟨W.heap.size + 1, 2, none⟩ = some (.int .i64 3) := (blk_cell C4 2).trans rfl; have dwq43 : wq.cell? ⟨W.heap.size + 1, 3, none⟩ = some (.int .i64 0) := (blk_cell C4 3).trans rfl; have dwqp0 : wq.cell? ⟨w1.heap.size, 0, none⟩ = some (.string x.f0) := (blk_cell C5 0).trans rfl; have dwqq0 : wq.cell? ⟨w1.heap.size, 1, none⟩ = some (.int .i64 x.f1) := (blk_cell C5 1).trans rfl) | (go_at_call 38; refine (put_at w0 g nm nn cn st lg _ _ (by have := HL.out; omega) w1 _ HW1.out HB3.out).mono ?_; rintro e wz ⟨rfl, hwk, hf1, hf2⟩; have HPK := Aside0.mk hwk; replace C4 := hf2 _ _ _ C4 (by decide) hne; replace C5 := hf1 _ _ C5 (Nat.le_refl _); clear hwk hf1 hf2; have dwz40 : wz.cell? ⟨W.heap.size + 1, 0, none⟩ = some (.string ⟨#[42]⟩) := (blk_cell C4 0).trans rfl; have dwz41 : wz.cell? ⟨W.heap.size + 1, 1, none⟩ = some (.int .i64 3) := (blk_cell C4 1).trans rfl; have dwz42 : wz.cell? ⟨W.heap.size + 1, 2, none⟩ = some (.int .i64 3) := (blk_cell C4 2).trans rfl; have dwz43 : wz.cell? ⟨W.heap.size + 1, 3, none⟩ = some (.int .i64 0) := (blk_cell C4 3).trans rfl; have dwzp0 : wz.cell? ⟨w1.heap.size, 0, none⟩ = some (.string x.f0) := (blk_cell C5 0).trans rfl; have dwzq0 : wz.cell? ⟨w1.heap.size, 1, none⟩ = some (.int .i64 x.f1) := (blk_cell C5 1).trans rfl)))
 all_goals go_wp2_with fail
 all_goals go_end0
 all_goals exact ⟨rfl, HPK.out⟩
 done
set_option maxHeartbeats 16000000 in
set_option maxRecDepth 100000 in
theorem tok_20 (w0 : World) (g : Nat) (nm : Option Addr) (nn cn : Nat) (st : List S61) (x : S61) (lg : Bool) (arg : Int) (hlen : st.length ≤ 900) (ta : ByteArray) (ha : show_piece_within.f x.f0 x.f1 6 = some ta) (sa : ta.size ≤ 4098) (W : World) (h : WkAt w0 g nm nn cn W (st ++ [x]) lg) :
  Calls Tryz.prog 27 #[.pointer (some ⟨g, 0, none⟩), .agg #[.int .u8 20, .int .u8 arg]] W fun e w' => e = .returned (.tuple #[]) ∧ WkAt w0 g nm nn cn w' (putP st (⟨#[63]⟩ ++ ta) 4) (putLg lg (⟨#[63]⟩ ++ ta)) := by
 have HWK := Aside0.mk h
 have HL := Aside0.mk hlen
 obtain ⟨vs, hb, hg, hR, hB⟩ := h
 have c0 : W.cell? ⟨g, 81, none⟩ = some (.string ⟨#[63]⟩) := (blk_cell hb 81).trans rfl
 have c1 : W.cell? ⟨g, 82, none⟩ = some (.int .i64 4) := (blk_cell hb 82).trans rfl
 have c2 : W.cell? ⟨g, 83, none⟩ = some (.int .i64 6) := (blk_cell hb 83).trans rfl
 have c3 : W.cell? ⟨g, 84, none⟩ = some (.int .i64 0) := (blk_cell hb 84).trans rfl
 have hlt := blk_lt hb
 have z0 : (9223372036854775807 < 1 + ta.size) = False := eq_false (by omega)
 have zd0 : decide (9223372036854775807 < 1 + ta.size) = false := decide_eq_false (by omega)
 clear hg hR hB hb hlen
 go_enter Tryz.func27, Tryz.ntmps27
 have hlt0 := Aside0.mk hlt
 go_wp2_with fail
 go_region
 go_wp2_with ((go_at_call 28; (refine (take_at w0 g nm nn cn st x lg (by have := HL.out; first | omega | (simp only [List.length_append, List.length_cons, List.length_nil]; omega)) W _ HWK.out (by first | exact Below.refl _ _ | (with_reducible repeat (first | exact Below.refl _ _ | apply pw_below_drewN | apply below_drew1 | apply below_alloc)))).mono ?_; rintro e w1 ⟨rfl, hwk, hfr⟩; have HW1 := Aside0.mk hwk; have B4 : w1.heap[W.heap.size + 1]? = some (.cells #[.string ⟨#[63]⟩, .int .i64 4, .int .i64 6, .int .i64 0] 53) := hfr _ _ (blk_drew (blk_new2 W _ _)) (by have := hlt0.out; omega); clear hwk hfr HWK)))
 obtain ⟨wv, hwv⟩ : ∃ wv, wv = w1.alloc (.cells #[.string x.f0, .int .i64 x.f1] 61) := ⟨_, rfl⟩
 have C5 : wv.heap[w1.heap.size]? = some (.cells #[.string x.f0, .int .i64 x.f1] 61) := by rw [hwv]; exact blk_new _ _
 have C4 : wv.heap[W.heap.size + 1]? = some (.cells #[.string ⟨#[63]⟩, .int .i64 4, .int .i64 6, .int .i64 0] 53) := by rw [hwv]; exact blk_alloc B4 _
 have HB3 : Aside0 (Below w1.heap.size w1 wv) := ⟨by rw [hwv]; exact below_alloc (Below.refl _ _) _⟩
 rw [← hwv]
 clear hwv B4
 have hne : W.heap.size + 1 ≠ g := by have := hlt0.out; omega
 have dwv40 : wv.cell? ⟨W.heap.size + 1, 0, none⟩ = some (.string ⟨#[63]⟩) := (blk_cell C4 0).trans rfl
 have dwv41 : wv.cell? ⟨W.heap.size + 1, 1, none⟩ = some (.int .i64 4) := (blk_cell C4 1).trans rfl
 have dwv42 : wv.cell? ⟨W.heap.size + 1, 2, none⟩ = some (.int .i64 6) := (blk_cell C4 2).trans rfl
 have dwv43 : wv.cell? ⟨W.heap.size + 1, 3, none⟩ = some (.int .i64 0) := (blk_cell C4 3).trans rfl
 have dwvp0 : wv.cell? ⟨w1.heap.size, 0, none⟩ = some (.string x.f0) := (blk_cell C5 0).trans rfl
 have dwvq0 : wv.cell? ⟨w1.heap.size, 1, none⟩ = some (.int .i64 x.f1) := (blk_cell C5 1).trans rfl
 go_region_held3 (fun w' => w'.cell? ⟨W.heap.size + 1, 0, none⟩ = some (.string ⟨#[63]⟩) ∧ w'.cell? ⟨W.heap.size + 1, 1, none⟩ = some (.int .i64 4) ∧ w'.cell? ⟨W.heap.size + 1, 2, none⟩ = some (.int .i64 6) ∧ w'.cell? ⟨W.heap.size + 1, 3, none⟩ = some (.int .i64 0) ∧ w'.cell? ⟨w1.heap.size, 0, none⟩ = some (.string x.f0) ∧ w'.cell? ⟨w1.heap.size, 1, none⟩ = some (.int .i64 x.f1)) (first | exact ⟨by assumption, by assumption, by assumption, by assumption, by assumption, by assumption⟩ | go_keep) ((first | (go_at_call 39; with_reducible refine (show_piece_within.calls _ _ _ _ _ ha).mono ?_; rintro e wq ⟨rfl, hq⟩; replace C4 := (hq.block _ (blk_lt C4)).trans C4; replace C5 := (hq.block _ (blk_lt C5)).trans C5; replace HB3 : Aside0 (Below w1.heap.size w1 wq) := ⟨by first | exact below_step HB3.out hq | exact below_step (below_drew1 HB3.out) hq⟩; clear hq; have dwq40 : wq.cell? ⟨W.heap.size + 1, 0, none⟩ = some (.string ⟨#[63]⟩) := (blk_cell C4 0).trans rfl; have dwq41 : wq.cell? ⟨W.heap.size + 1, 1, none⟩ = some (.int .i64 4) := (blk_cell C4 1).trans rfl; have dwq42 : wq.cell? ⟨W.heap.size + 1, 2, none⟩ = some (.int .i64 6) := (blk_cell C4 2).trans rfl; have dwq43 : wq.cell? ⟨W.heap.size + 1, 3, none⟩ = some (.int .i64 0) := (blk_cell C4 3).trans rfl; have dwqp0 : wq.cell? ⟨w1.heap.size, 0, none⟩ = some (.string x.f0) := (blk_cell C5 0).trans rfl; have dwqq0 : wq.cell? ⟨w1.heap.size, 1, none⟩ = some (.int .i64 x.f1) := (blk_cell C5 1).trans rfl) | (go_at_call 38; refine (put_at w0 g nm nn cn st lg _ _ (by have := HL.out; omega) w1 _ HW1.out HB3.out).mono ?_; rintro e wz ⟨rfl, hwk, hf1, hf2⟩; have HPK := Aside0.mk hwk; replace C4 := hf2 _ _ _ C4 (by decide) hne; replace C5 := hf1 _ _ C5 (Nat.le_refl _); clear hwk hf1 hf2; have dwz40 : wz.cell? ⟨W.heap.size + 1, 0, none⟩ = some (.string ⟨#[63]⟩) := (blk_cell C4 0).trans rfl; have dwz41 : wz.cell? ⟨W.heap.size + 1, 1, none⟩ = some (.int .i64 4) := (blk_cell C4 1).trans rfl; have dwz42 : wz.cell? ⟨W.heap.size + 1, 2, none⟩ = some (.int .i64 6) := (blk_cell C4 2).trans rfl; have dwz43 : wz.cell? ⟨W.heap.size + 1, 3, none⟩ = some (.int .i64 0) := (blk_cell C4 3).trans rfl; have dwzp0 : wz.cell? ⟨w1.heap.size, 0, none⟩ = some (.string x.f0) := (blk_cell C5 0).trans rfl; have dwzq0 : wz.cell? ⟨w1.heap.size, 1, none⟩ = some (.int .i64 x.f1) := (blk_cell C5 1).trans rfl)))
 all_goals go_wp2_with fail
 all_goals go_end0
 all_goals exact ⟨rfl, HPK.out⟩
 done
set_option maxHeartbeats 16000000 in
set_option maxRecDepth 100000 in
theorem tok_6 (w0 : World) (g : Nat) (nm : Option Addr) (nn cn : Nat) (st : List S61) (x : S61) (lg : Bool) (arg : Int) (hlen : st.length ≤ 900) (ta : ByteArray) (ha : show_piece_within.f x.f0 x.f1 6 = some ta) (sa : ta.size ≤ 4098) (W : World) (h : WkAt w0 g nm nn cn W (st ++ [x]) lg) :
  Calls Tryz.prog 27 #[.pointer (some ⟨g, 0, none⟩), .agg #[.int .u8 6, .int .u8 arg]] W fun e w' => e = .returned (.tuple #[]) ∧ WkAt w0 g nm nn cn w' (putP st (⟨#[33]⟩ ++ ta) 6) (putLg lg (⟨#[33]⟩ ++ ta)) := by
 have HWK := Aside0.mk h
 have HL := Aside0.mk hlen
 obtain ⟨vs, hb, hg, hR, hB⟩ := h
 have c0 : W.cell? ⟨g, 25, none⟩ = some (.string ⟨#[33]⟩) := (blk_cell hb 25).trans rfl
 have c1 : W.cell? ⟨g, 26, none⟩ = some (.int .i64 6) := (blk_cell hb 26).trans rfl
 have c2 : W.cell? ⟨g, 27, none⟩ = some (.int .i64 6) := (blk_cell hb 27).trans rfl
 have c3 : W.cell? ⟨g, 28, none⟩ = some (.int .i64 0) := (blk_cell hb 28).trans rfl
 have hlt := blk_lt hb
 have z0 : (9223372036854775807 < 1 + ta.size) = False := eq_false (by omega)
 have zd0 : decide (9223372036854775807 < 1 + ta.size) = false := decide_eq_false (by omega)
 clear hg hR hB hb hlen
 go_enter Tryz.func27, Tryz.ntmps27
 have hlt0 := Aside0.mk hlt
 go_wp2_with fail
 go_region
 go_wp2_with ((go_at_call 28; (refine (take_at w0 g nm nn cn st x lg (by have := HL.out; first | omega | (simp only [List.length_append, List.length_cons, List.length_nil]; omega)) W _ HWK.out (by first | exact Below.refl _ _ | (with_reducible repeat (first | exact Below.refl _ _ | apply pw_below_drewN | apply below_drew1 | apply below_alloc)))).mono ?_; rintro e w1 ⟨rfl, hwk, hfr⟩; have HW1 := Aside0.mk hwk; have B4 : w1.heap[W.heap.size + 1]? = some (.cells #[.string ⟨#[33]⟩, .int .i64 6, .int .i64 6, .int .i64 0] 53) := hfr _ _ (blk_drew (blk_new2 W _ _)) (by have := hlt0.out; omega); clear hwk hfr HWK)))
 obtain ⟨wv, hwv⟩ : ∃ wv, wv = w1.alloc (.cells #[.string x.f0, .int .i64 x.f1] 61) := ⟨_, rfl⟩
 have C5 : wv.heap[w1.heap.size]? = some (.cells #[.string x.f0, .int .i64 x.f1] 61) := by rw [hwv]; exact blk_new _ _
 have C4 : wv.heap[W.heap.size + 1]? = some (.cells #[.string ⟨#[33]⟩, .int .i64 6, .int .i64 6, .int .i64 0] 53) := by rw [hwv]; exact blk_alloc B4 _
 have HB3 : Aside0 (Below w1.heap.size w1 wv) := ⟨by rw [hwv]; exact below_alloc (Below.refl _ _) _⟩
 rw [← hwv]
 clear hwv B4
 have hne : W.heap.size + 1 ≠ g := by have := hlt0.out; omega
 have dwv40 : wv.cell? ⟨W.heap.size + 1, 0, none⟩ = some (.string ⟨#[33]⟩) := (blk_cell C4 0).trans rfl
 have dwv41 : wv.cell? ⟨W.heap.size + 1, 1, none⟩ = some (.int .i64 6) := (blk_cell C4 1).trans rfl
 have dwv42 : wv.cell? ⟨W.heap.size + 1, 2, none⟩ = some (.int .i64 6) := (blk_cell C4 2).trans rfl
 have dwv43 : wv.cell? ⟨W.heap.size + 1, 3, none⟩ = some (.int .i64 0) := (blk_cell C4 3).trans rfl
 have dwvp0 : wv.cell? ⟨w1.heap.size, 0, none⟩ = some (.string x.f0) := (blk_cell C5 0).trans rfl
 have dwvq0 : wv.cell? ⟨w1.heap.size, 1, none⟩ = some (.int .i64 x.f1) := (blk_cell C5 1).trans rfl
 go_region_held3 (fun w' => w'.cell? ⟨W.heap.size + 1, 0, none⟩ = some (.string ⟨#[33]⟩) ∧ w'.cell? ⟨W.heap.size + 1, 1, none⟩ = some (.int .i64 6) ∧ w'.cell? ⟨W.heap.size + 1, 2, none⟩ = some (.int .i64 6) ∧ w'.cell? ⟨W.heap.size + 1, 3, none⟩ = some (.int .i64 0) ∧ w'.cell? ⟨w1.heap.size, 0, none⟩ = some (.string x.f0) ∧ w'.cell? ⟨w1.heap.size, 1, none⟩ = some (.int .i64 x.f1)) (first | exact ⟨by assumption, by assumption, by assumption, by assumption, by assumption, by assumption⟩ | go_keep) ((first | (go_at_call 39; with_reducible refine (show_piece_within.calls _ _ _ _ _ ha).mono ?_; rintro e wq ⟨rfl, hq⟩; replace C4 := (hq.block _ (blk_lt C4)).trans C4; replace C5 := (hq.block _ (blk_lt C5)).trans C5; replace HB3 : Aside0 (Below w1.heap.size w1 wq) := ⟨by first | exact below_step HB3.out hq | exact below_step (below_drew1 HB3.out) hq⟩; clear hq; have dwq40 : wq.cell? ⟨W.heap.size + 1, 0, none⟩ = some (.string ⟨#[33]⟩) := (blk_cell C4 0).trans rfl; have dwq41 : wq.cell? ⟨W.heap.size + 1, 1, none⟩ = some (.int .i64 6) := (blk_cell C4 1).trans rfl; have dwq42 : wq.cell? ⟨W.heap.size + 1, 2, none⟩ = some (.int .i64 6) := (blk_cell C4 2).trans rfl; have dwq43 : wq.cell? ⟨W.heap.size + 1, 3, none⟩ = some (.int .i64 0) := (blk_cell C4 3).trans rfl; have dwqp0 : wq.cell? ⟨w1.heap.size, 0, none⟩ = some (.string x.f0) := (blk_cell C5 0).trans rfl; have dwqq0 : wq.cell? ⟨w1.heap.size, 1, none⟩ = some (.int .i64 x.f1) := (blk_cell C5 1).trans rfl) | (go_at_call 38; refine (put_at w0 g nm nn cn st lg _ _ (by have := HL.out; omega) w1 _ HW1.out HB3.out).mono ?_; rintro e wz ⟨rfl, hwk, hf1, hf2⟩; have HPK := Aside0.mk hwk; replace C4 := hf2 _ _ _ C4 (by decide) hne; replace C5 := hf1 _ _ C5 (Nat.le_refl _); clear hwk hf1 hf2; have dwz40 : wz.cell? ⟨W.heap.size + 1, 0, none⟩ = some (.string ⟨#[33]⟩) := (blk_cell C4 0).trans rfl; have dwz41 : wz.cell? ⟨W.heap.size + 1, 1, none⟩ = some (.int .i64 6) := (blk_cell C4 1).trans rfl; have dwz42 : wz.cell? ⟨W.heap.size + 1, 2, none⟩ = some (.int .i64 6) := (blk_cell C4 2).trans rfl; have dwz43 : wz.cell? ⟨W.heap.size + 1, 3, none⟩ = some (.int .i64 0) := (blk_cell C4 3).trans rfl; have dwzp0 : wz.cell? ⟨w1.heap.size, 0, none⟩ = some (.string x.f0) := (blk_cell C5 0).trans rfl; have dwzq0 : wz.cell? ⟨w1.heap.size, 1, none⟩ = some (.int .i64 x.f1) := (blk_cell C5 1).trans rfl)))
 all_goals go_wp2_with fail
 all_goals go_end0
 all_goals exact ⟨rfl, HPK.out⟩
 done
set_option maxHeartbeats 16000000 in
set_option maxRecDepth 100000 in
theorem tok_7 (w0 : World) (g : Nat) (nm : Option Addr) (nn cn : Nat) (st : List S61) (x : S61) (lg : Bool) (arg : Int) (hlen : st.length ≤ 900) (ta : ByteArray) (ha : show_piece_within.f x.f0 x.f1 6 = some ta) (sa : ta.size ≤ 4098) (W : World) (h : WkAt w0 g nm nn cn W (st ++ [x]) lg) :
  Calls Tryz.prog 27 #[.pointer (some ⟨g, 0, none⟩), .agg #[.int .u8 7, .int .u8 arg]] W fun e w' => e = .returned (.tuple #[]) ∧ WkAt w0 g nm nn cn w' (putP st (⟨#[88, 32]⟩ ++ ta) 6) (putLg lg (⟨#[88, 32]⟩ ++ ta)) := by
 have HWK := Aside0.mk h
 have HL := Aside0.mk hlen
 obtain ⟨vs, hb, hg, hR, hB⟩ := h
 have c0 : W.cell? ⟨g, 29, none⟩ = some (.string ⟨#[88, 32]⟩) := (blk_cell hb 29).trans rfl
 have c1 : W.cell? ⟨g, 30, none⟩ = some (.int .i64 6) := (blk_cell hb 30).trans rfl
 have c2 : W.cell? ⟨g, 31, none⟩ = some (.int .i64 6) := (blk_cell hb 31).trans rfl
 have c3 : W.cell? ⟨g, 32, none⟩ = some (.int .i64 0) := (blk_cell hb 32).trans rfl
 have hlt := blk_lt hb
 have z0 : (9223372036854775807 < 2 + ta.size) = False := eq_false (by omega)
 have zd0 : decide (9223372036854775807 < 2 + ta.size) = false := decide_eq_false (by omega)
 clear hg hR hB hb hlen
 go_enter Tryz.func27, Tryz.ntmps27
 have hlt0 := Aside0.mk hlt
 go_wp2_with fail
 go_region
 go_wp2_with ((go_at_call 28; (refine (take_at w0 g nm nn cn st x lg (by have := HL.out; first | omega | (simp only [List.length_append, List.length_cons, List.length_nil]; omega)) W _ HWK.out (by first | exact Below.refl _ _ | (with_reducible repeat (first | exact Below.refl _ _ | apply pw_below_drewN | apply below_drew1 | apply below_alloc)))).mono ?_; rintro e w1 ⟨rfl, hwk, hfr⟩; have HW1 := Aside0.mk hwk; have B4 : w1.heap[W.heap.size + 1]? = some (.cells #[.string ⟨#[88, 32]⟩, .int .i64 6, .int .i64 6, .int .i64 0] 53) := hfr _ _ (blk_drew (blk_new2 W _ _)) (by have := hlt0.out; omega); clear hwk hfr HWK)))
 obtain ⟨wv, hwv⟩ : ∃ wv, wv = w1.alloc (.cells #[.string x.f0, .int .i64 x.f1] 61) := ⟨_, rfl⟩
 have C5 : wv.heap[w1.heap.size]? = some (.cells #[.string x.f0, .int .i64 x.f1] 61) := by rw [hwv]; exact blk_new _ _
 have C4 : wv.heap[W.heap.size + 1]? = some (.cells #[.string ⟨#[88, 32]⟩, .int .i64 6, .int .i64 6, .int .i64 0] 53) := by rw [hwv]; exact blk_alloc B4 _
 have HB3 : Aside0 (Below w1.heap.size w1 wv) := ⟨by rw [hwv]; exact below_alloc (Below.refl _ _) _⟩
 rw [← hwv]
 clear hwv B4
 have hne : W.heap.size + 1 ≠ g := by have := hlt0.out; omega
 have dwv40 : wv.cell? ⟨W.heap.size + 1, 0, none⟩ = some (.string ⟨#[88, 32]⟩) := (blk_cell C4 0).trans rfl
 have dwv41 : wv.cell? ⟨W.heap.size + 1, 1, none⟩ = some (.int .i64 6) := (blk_cell C4 1).trans rfl
 have dwv42 : wv.cell? ⟨W.heap.size + 1, 2, none⟩ = some (.int .i64 6) := (blk_cell C4 2).trans rfl
 have dwv43 : wv.cell? ⟨W.heap.size + 1, 3, none⟩ = some (.int .i64 0) := (blk_cell C4 3).trans rfl
 have dwvp0 : wv.cell? ⟨w1.heap.size, 0, none⟩ = some (.string x.f0) := (blk_cell C5 0).trans rfl
 have dwvq0 : wv.cell? ⟨w1.heap.size, 1, none⟩ = some (.int .i64 x.f1) := (blk_cell C5 1).trans rfl
 go_region_held3 (fun w' => w'.cell? ⟨W.heap.size + 1, 0, none⟩ = some (.string ⟨#[88, 32]⟩) ∧ w'.cell? ⟨W.heap.size + 1, 1, none⟩ = some (.int .i64 6) ∧ w'.cell? ⟨W.heap.size + 1, 2, none⟩ = some (.int .i64 6) ∧ w'.cell? ⟨W.heap.size + 1, 3, none⟩ = some (.int .i64 0) ∧ w'.cell? ⟨w1.heap.size, 0, none⟩ = some (.string x.f0) ∧ w'.cell? ⟨w1.heap.size, 1, none⟩ = some (.int .i64 x.f1)) (first | exact ⟨by assumption, by assumption, by assumption, by assumption, by assumption, by assumption⟩ | go_keep) ((first | (go_at_call 39; with_reducible refine (show_piece_within.calls _ _ _ _ _ ha).mono ?_; rintro e wq ⟨rfl, hq⟩; replace C4 := (hq.block _ (blk_lt C4)).trans C4; replace C5 := (hq.block _ (blk_lt C5)).trans C5; replace HB3 : Aside0 (Below w1.heap.size w1 wq) := ⟨by first | exact below_step HB3.out hq | exact below_step (below_drew1 HB3.out) hq⟩; clear hq; have dwq40 : wq.cell? ⟨W.heap.size + 1, 0, none⟩ = some (.string ⟨#[88, 32]⟩) := (blk_cell C4 0).trans rfl; have dwq41 : wq.cell? ⟨W.heap.size + 1, 1, none⟩ = some (.int .i64 6) := (blk_cell C4 1).trans rfl; have dwq42 : wq.cell? ⟨W.heap.size + 1, 2, none⟩ = some (.int .i64 6) := (blk_cell C4 2).trans rfl; have dwq43 : wq.cell? ⟨W.heap.size + 1, 3, none⟩ = some (.int .i64 0) := (blk_cell C4 3).trans rfl; have dwqp0 : wq.cell? ⟨w1.heap.size, 0, none⟩ = some (.string x.f0) := (blk_cell C5 0).trans rfl; have dwqq0 : wq.cell? ⟨w1.heap.size, 1, none⟩ = some (.int .i64 x.f1) := (blk_cell C5 1).trans rfl) | (go_at_call 38; refine (put_at w0 g nm nn cn st lg _ _ (by have := HL.out; omega) w1 _ HW1.out HB3.out).mono ?_; rintro e wz ⟨rfl, hwk, hf1, hf2⟩; have HPK := Aside0.mk hwk; replace C4 := hf2 _ _ _ C4 (by decide) hne; replace C5 := hf1 _ _ C5 (Nat.le_refl _); clear hwk hf1 hf2; have dwz40 : wz.cell? ⟨W.heap.size + 1, 0, none⟩ = some (.string ⟨#[88, 32]⟩) := (blk_cell C4 0).trans rfl; have dwz41 : wz.cell? ⟨W.heap.size + 1, 1, none⟩ = some (.int .i64 6) := (blk_cell C4 1).trans rfl; have dwz42 : wz.cell? ⟨W.heap.size + 1, 2, none⟩ = some (.int .i64 6) := (blk_cell C4 2).trans rfl; have dwz43 : wz.cell? ⟨W.heap.size + 1, 3, none⟩ = some (.int .i64 0) := (blk_cell C4 3).trans rfl; have dwzp0 : wz.cell? ⟨w1.heap.size, 0, none⟩ = some (.string x.f0) := (blk_cell C5 0).trans rfl; have dwzq0 : wz.cell? ⟨w1.heap.size, 1, none⟩ = some (.int .i64 x.f1) := (blk_cell C5 1).trans rfl)))
 all_goals go_wp2_with fail
 all_goals go_end0
 all_goals exact ⟨rfl, HPK.out⟩
 done
set_option maxHeartbeats 16000000 in
set_option maxRecDepth 100000 in
theorem tok_8 (w0 : World) (g : Nat) (nm : Option Addr) (nn cn : Nat) (st : List S61) (x : S61) (lg : Bool) (arg : Int) (hlen : st.length ≤ 900) (ta : ByteArray) (ha : show_piece_within.f x.f0 x.f1 6 = some ta) (sa : ta.size ≤ 4098) (W : World) (h : WkAt w0 g nm nn cn W (st ++ [x]) lg) :
  Calls Tryz.prog 27 #[.pointer (some ⟨g, 0, none⟩), .agg #[.int .u8 8, .int .u8 arg]] W fun e w' => e = .returned (.tuple #[]) ∧ WkAt w0 g nm nn cn w' (putP st (⟨#[78, 32]⟩ ++ ta) 6) (putLg lg (⟨#[78, 32]⟩ ++ ta)) := by
 have HWK := Aside0.mk h
 have HL := Aside0.mk hlen
 obtain ⟨vs, hb, hg, hR, hB⟩ := h
 have c0 : W.cell? ⟨g, 33, none⟩ = some (.string ⟨#[78, 32]⟩) := (blk_cell hb 33).trans rfl
 have c1 : W.cell? ⟨g, 34, none⟩ = some (.int .i64 6) := (blk_cell hb 34).trans rfl
 have c2 : W.cell? ⟨g, 35, none⟩ = some (.int .i64 6) := (blk_cell hb 35).trans rfl
 have c3 : W.cell? ⟨g, 36, none⟩ = some (.int .i64 0) := (blk_cell hb 36).trans rfl
 have hlt := blk_lt hb
 have z0 : (9223372036854775807 < 2 + ta.size) = False := eq_false (by omega)
 have zd0 : decide (9223372036854775807 < 2 + ta.size) = false := decide_eq_false (by omega)
 clear hg hR hB hb hlen
 go_enter Tryz.func27, Tryz.ntmps27
 have hlt0 := Aside0.mk hlt
 go_wp2_with fail
 go_region
 go_wp2_with ((go_at_call 28; (refine (take_at w0 g nm nn cn st x lg (by have := HL.out; first | omega | (simp only [List.length_append, List.length_cons, List.length_nil]; omega)) W _ HWK.out (by first | exact Below.refl _ _ | (with_reducible repeat (first | exact Below.refl _ _ | apply pw_below_drewN | apply below_drew1 | apply below_alloc)))).mono ?_; rintro e w1 ⟨rfl, hwk, hfr⟩; have HW1 := Aside0.mk hwk; have B4 : w1.heap[W.heap.size + 1]? = some (.cells #[.string ⟨#[78, 32]⟩, .int .i64 6, .int .i64 6, .int .i64 0] 53) := hfr _ _ (blk_drew (blk_new2 W _ _)) (by have := hlt0.out; omega); clear hwk hfr HWK)))
 obtain ⟨wv, hwv⟩ : ∃ wv, wv = w1.alloc (.cells #[.string x.f0, .int .i64 x.f1] 61) := ⟨_, rfl⟩
 have C5 : wv.heap[w1.heap.size]? = some (.cells #[.string x.f0, .int .i64 x.f1] 61) := by rw [hwv]; exact blk_new _ _
 have C4 : wv.heap[W.heap.size + 1]? = some (.cells #[.string ⟨#[78, 32]⟩, .int .i64 6, .int .i64 6, .int .i64 0] 53) := by rw [hwv]; exact blk_alloc B4 _
 have HB3 : Aside0 (Below w1.heap.size w1 wv) := ⟨by rw [hwv]; exact below_alloc (Below.refl _ _) _⟩
 rw [← hwv]
 clear hwv B4
 have hne : W.heap.size + 1 ≠ g := by have := hlt0.out; omega
 have dwv40 : wv.cell? ⟨W.heap.size + 1, 0, none⟩ = some (.string ⟨#[78, 32]⟩) := (blk_cell C4 0).trans rfl
 have dwv41 : wv.cell? ⟨W.heap.size + 1, 1, none⟩ = some (.int .i64 6) := (blk_cell C4 1).trans rfl
 have dwv42 : wv.cell? ⟨W.heap.size + 1, 2, none⟩ = some (.int .i64 6) := (blk_cell C4 2).trans rfl
 have dwv43 : wv.cell? ⟨W.heap.size + 1, 3, none⟩ = some (.int .i64 0) := (blk_cell C4 3).trans rfl
 have dwvp0 : wv.cell? ⟨w1.heap.size, 0, none⟩ = some (.string x.f0) := (blk_cell C5 0).trans rfl
 have dwvq0 : wv.cell? ⟨w1.heap.size, 1, none⟩ = some (.int .i64 x.f1) := (blk_cell C5 1).trans rfl
 go_region_held3 (fun w' => w'.cell? ⟨W.heap.size + 1, 0, none⟩ = some (.string ⟨#[78, 32]⟩) ∧ w'.cell? ⟨W.heap.size + 1, 1, none⟩ = some (.int .i64 6) ∧ w'.cell? ⟨W.heap.size + 1, 2, none⟩ = some (.int .i64 6) ∧ w'.cell? ⟨W.heap.size + 1, 3, none⟩ = some (.int .i64 0) ∧ w'.cell? ⟨w1.heap.size, 0, none⟩ = some (.string x.f0) ∧ w'.cell? ⟨w1.heap.size, 1, none⟩ = some (.int .i64 x.f1)) (first | exact ⟨by assumption, by assumption, by assumption, by assumption, by assumption, by assumption⟩ | go_keep) ((first | (go_at_call 39; with_reducible refine (show_piece_within.calls _ _ _ _ _ ha).mono ?_; rintro e wq ⟨rfl, hq⟩; replace C4 := (hq.block _ (blk_lt C4)).trans C4; replace C5 := (hq.block _ (blk_lt C5)).trans C5; replace HB3 : Aside0 (Below w1.heap.size w1 wq) := ⟨by first | exact below_step HB3.out hq | exact below_step (below_drew1 HB3.out) hq⟩; clear hq; have dwq40 : wq.cell? ⟨W.heap.size + 1, 0, none⟩ = some (.string ⟨#[78, 32]⟩) := (blk_cell C4 0).trans rfl; have dwq41 : wq.cell? ⟨W.heap.size + 1, 1, none⟩ = some (.int .i64 6) := (blk_cell C4 1).trans rfl; have dwq42 : wq.cell? ⟨W.heap.size + 1, 2, none⟩ = some (.int .i64 6) := (blk_cell C4 2).trans rfl; have dwq43 : wq.cell? ⟨W.heap.size + 1, 3, none⟩ = some (.int .i64 0) := (blk_cell C4 3).trans rfl; have dwqp0 : wq.cell? ⟨w1.heap.size, 0, none⟩ = some (.string x.f0) := (blk_cell C5 0).trans rfl; have dwqq0 : wq.cell? ⟨w1.heap.size, 1, none⟩ = some (.int .i64 x.f1) := (blk_cell C5 1).trans rfl) | (go_at_call 38; refine (put_at w0 g nm nn cn st lg _ _ (by have := HL.out; omega) w1 _ HW1.out HB3.out).mono ?_; rintro e wz ⟨rfl, hwk, hf1, hf2⟩; have HPK := Aside0.mk hwk; replace C4 := hf2 _ _ _ C4 (by decide) hne; replace C5 := hf1 _ _ C5 (Nat.le_refl _); clear hwk hf1 hf2; have dwz40 : wz.cell? ⟨W.heap.size + 1, 0, none⟩ = some (.string ⟨#[78, 32]⟩) := (blk_cell C4 0).trans rfl; have dwz41 : wz.cell? ⟨W.heap.size + 1, 1, none⟩ = some (.int .i64 6) := (blk_cell C4 1).trans rfl; have dwz42 : wz.cell? ⟨W.heap.size + 1, 2, none⟩ = some (.int .i64 6) := (blk_cell C4 2).trans rfl; have dwz43 : wz.cell? ⟨W.heap.size + 1, 3, none⟩ = some (.int .i64 0) := (blk_cell C4 3).trans rfl; have dwzp0 : wz.cell? ⟨w1.heap.size, 0, none⟩ = some (.string x.f0) := (blk_cell C5 0).trans rfl; have dwzq0 : wz.cell? ⟨w1.heap.size, 1, none⟩ = some (.int .i64 x.f1) := (blk_cell C5 1).trans rfl)))
 all_goals go_wp2_with fail
 all_goals go_end0
 all_goals exact ⟨rfl, HPK.out⟩
 done
set_option maxHeartbeats 16000000 in
set_option maxRecDepth 100000 in
theorem tok_9 (w0 : World) (g : Nat) (nm : Option Addr) (nn cn : Nat) (st : List S61) (x : S61) (lg : Bool) (arg : Int) (hlen : st.length ≤ 900) (ta : ByteArray) (ha : show_piece_within.f x.f0 x.f1 6 = some ta) (sa : ta.size ≤ 4098) (W : World) (h : WkAt w0 g nm nn cn W (st ++ [x]) lg) :
  Calls Tryz.prog 27 #[.pointer (some ⟨g, 0, none⟩), .agg #[.int .u8 9, .int .u8 arg]] W fun e w' => e = .returned (.tuple #[]) ∧ WkAt w0 g nm nn cn w' (putP st (⟨#[70, 32]⟩ ++ ta) 6) (putLg lg (⟨#[70, 32]⟩ ++ ta)) := by
 have HWK := Aside0.mk h
 have HL := Aside0.mk hlen
 obtain ⟨vs, hb, hg, hR, hB⟩ := h
 have c0 : W.cell? ⟨g, 37, none⟩ = some (.string ⟨#[70, 32]⟩) := (blk_cell hb 37).trans rfl
 have c1 : W.cell? ⟨g, 38, none⟩ = some (.int .i64 6) := (blk_cell hb 38).trans rfl
 have c2 : W.cell? ⟨g, 39, none⟩ = some (.int .i64 6) := (blk_cell hb 39).trans rfl
 have c3 : W.cell? ⟨g, 40, none⟩ = some (.int .i64 0) := (blk_cell hb 40).trans rfl
 have hlt := blk_lt hb
 have z0 : (9223372036854775807 < 2 + ta.size) = False := eq_false (by omega)
 have zd0 : decide (9223372036854775807 < 2 + ta.size) = false := decide_eq_false (by omega)
 clear hg hR hB hb hlen
 go_enter Tryz.func27, Tryz.ntmps27
 have hlt0 := Aside0.mk hlt
 go_wp2_with fail
 go_region
 go_wp2_with ((go_at_call 28; (refine (take_at w0 g nm nn cn st x lg (by have := HL.out; first | omega | (simp only [List.length_append, List.length_cons, List.length_nil]; omega)) W _ HWK.out (by first | exact Below.refl _ _ | (with_reducible repeat (first | exact Below.refl _ _ | apply pw_below_drewN | apply below_drew1 | apply below_alloc)))).mono ?_; rintro e w1 ⟨rfl, hwk, hfr⟩; have HW1 := Aside0.mk hwk; have B4 : w1.heap[W.heap.size + 1]? = some (.cells #[.string ⟨#[70, 32]⟩, .int .i64 6, .int .i64 6, .int .i64 0] 53) := hfr _ _ (blk_drew (blk_new2 W _ _)) (by have := hlt0.out; omega); clear hwk hfr HWK)))
 obtain ⟨wv, hwv⟩ : ∃ wv, wv = w1.alloc (.cells #[.string x.f0, .int .i64 x.f1] 61) := ⟨_, rfl⟩
 have C5 : wv.heap[w1.heap.size]? = some (.cells #[.string x.f0, .int .i64 x.f1] 61) := by rw [hwv]; exact blk_new _ _
 have C4 : wv.heap[W.heap.size + 1]? = some (.cells #[.string ⟨#[70, 32]⟩, .int .i64 6, .int .i64 6, .int .i64 0] 53) := by rw [hwv]; exact blk_alloc B4 _
 have HB3 : Aside0 (Below w1.heap.size w1 wv) := ⟨by rw [hwv]; exact below_alloc (Below.refl _ _) _⟩
 rw [← hwv]
 clear hwv B4
 have hne : W.heap.size + 1 ≠ g := by have := hlt0.out; omega
 have dwv40 : wv.cell? ⟨W.heap.size + 1, 0, none⟩ = some (.string ⟨#[70, 32]⟩) := (blk_cell C4 0).trans rfl
 have dwv41 : wv.cell? ⟨W.heap.size + 1, 1, none⟩ = some (.int .i64 6) := (blk_cell C4 1).trans rfl
 have dwv42 : wv.cell? ⟨W.heap.size + 1, 2, none⟩ = some (.int .i64 6) := (blk_cell C4 2).trans rfl
 have dwv43 : wv.cell? ⟨W.heap.size + 1, 3, none⟩ = some (.int .i64 0) := (blk_cell C4 3).trans rfl
 have dwvp0 : wv.cell? ⟨w1.heap.size, 0, none⟩ = some (.string x.f0) := (blk_cell C5 0).trans rfl
 have dwvq0 : wv.cell? ⟨w1.heap.size, 1, none⟩ = some (.int .i64 x.f1) := (blk_cell C5 1).trans rfl
 go_region_held3 (fun w' => w'.cell? ⟨W.heap.size + 1, 0, none⟩ = some (.string ⟨#[70, 32]⟩) ∧ w'.cell? ⟨W.heap.size + 1, 1, none⟩ = some (.int .i64 6) ∧ w'.cell? ⟨W.heap.size + 1, 2, none⟩ = some (.int .i64 6) ∧ w'.cell? ⟨W.heap.size + 1, 3, none⟩ = some (.int .i64 0) ∧ w'.cell? ⟨w1.heap.size, 0, none⟩ = some (.string x.f0) ∧ w'.cell? ⟨w1.heap.size, 1, none⟩ = some (.int .i64 x.f1)) (first | exact ⟨by assumption, by assumption, by assumption, by assumption, by assumption, by assumption⟩ | go_keep) ((first | (go_at_call 39; with_reducible refine (show_piece_within.calls _ _ _ _ _ ha).mono ?_; rintro e wq ⟨rfl, hq⟩; replace C4 := (hq.block _ (blk_lt C4)).trans C4; replace C5 := (hq.block _ (blk_lt C5)).trans C5; replace HB3 : Aside0 (Below w1.heap.size w1 wq) := ⟨by first | exact below_step HB3.out hq | exact below_step (below_drew1 HB3.out) hq⟩; clear hq; have dwq40 : wq.cell? ⟨W.heap.size + 1, 0, none⟩ = some (.string ⟨#[70, 32]⟩) := (blk_cell C4 0).trans rfl; have dwq41 : wq.cell? ⟨W.heap.size + 1, 1, none⟩ = some (.int .i64 6) := (blk_cell C4 1).trans rfl; have dwq42 : wq.cell? ⟨W.heap.size + 1, 2, none⟩ = some (.int .i64 6) := (blk_cell C4 2).trans rfl; have dwq43 : wq.cell? ⟨W.heap.size + 1, 3, none⟩ = some (.int .i64 0) := (blk_cell C4 3).trans rfl; have dwqp0 : wq.cell? ⟨w1.heap.size, 0, none⟩ = some (.string x.f0) := (blk_cell C5 0).trans rfl; have dwqq0 : wq.cell? ⟨w1.heap.size, 1, none⟩ = some (.int .i64 x.f1) := (blk_cell C5 1).trans rfl) | (go_at_call 38; refine (put_at w0 g nm nn cn st lg _ _ (by have := HL.out; omega) w1 _ HW1.out HB3.out).mono ?_; rintro e wz ⟨rfl, hwk, hf1, hf2⟩; have HPK := Aside0.mk hwk; replace C4 := hf2 _ _ _ C4 (by decide) hne; replace C5 := hf1 _ _ C5 (Nat.le_refl _); clear hwk hf1 hf2; have dwz40 : wz.cell? ⟨W.heap.size + 1, 0, none⟩ = some (.string ⟨#[70, 32]⟩) := (blk_cell C4 0).trans rfl; have dwz41 : wz.cell? ⟨W.heap.size + 1, 1, none⟩ = some (.int .i64 6) := (blk_cell C4 1).trans rfl; have dwz42 : wz.cell? ⟨W.heap.size + 1, 2, none⟩ = some (.int .i64 6) := (blk_cell C4 2).trans rfl; have dwz43 : wz.cell? ⟨W.heap.size + 1, 3, none⟩ = some (.int .i64 0) := (blk_cell C4 3).trans rfl; have dwzp0 : wz.cell? ⟨w1.heap.size, 0, none⟩ = some (.string x.f0) := (blk_cell C5 0).trans rfl; have dwzq0 : wz.cell? ⟨w1.heap.size, 1, none⟩ = some (.int .i64 x.f1) := (blk_cell C5 1).trans rfl)))
 all_goals go_wp2_with fail
 all_goals go_end0
 all_goals exact ⟨rfl, HPK.out⟩
 done
set_option maxHeartbeats 16000000 in
set_option maxRecDepth 100000 in
theorem tok_10 (w0 : World) (g : Nat) (nm : Option Addr) (nn cn : Nat) (st : List S61) (x : S61) (lg : Bool) (arg : Int) (hlen : st.length ≤ 900) (ta : ByteArray) (ha : show_piece_within.f x.f0 x.f1 6 = some ta) (sa : ta.size ≤ 4098) (W : World) (h : WkAt w0 g nm nn cn W (st ++ [x]) lg) :
  Calls Tryz.prog 27 #[.pointer (some ⟨g, 0, none⟩), .agg #[.int .u8 10, .int .u8 arg]] W fun e w' => e = .returned (.tuple #[]) ∧ WkAt w0 g nm nn cn w' (putP st (⟨#[71, 32]⟩ ++ ta) 6) (putLg lg (⟨#[71, 32]⟩ ++ ta)) := by
 have HWK := Aside0.mk h
 have HL := Aside0.mk hlen
 obtain ⟨vs, hb, hg, hR, hB⟩ := h
 have c0 : W.cell? ⟨g, 41, none⟩ = some (.string ⟨#[71, 32]⟩) := (blk_cell hb 41).trans rfl
 have c1 : W.cell? ⟨g, 42, none⟩ = some (.int .i64 6) := (blk_cell hb 42).trans rfl
 have c2 : W.cell? ⟨g, 43, none⟩ = some (.int .i64 6) := (blk_cell hb 43).trans rfl
 have c3 : W.cell? ⟨g, 44, none⟩ = some (.int .i64 0) := (blk_cell hb 44).trans rfl
 have hlt := blk_lt hb
 have z0 : (9223372036854775807 < 2 + ta.size) = False := eq_false (by omega)
 have zd0 : decide (9223372036854775807 < 2 + ta.size) = false := decide_eq_false (by omega)
 clear hg hR hB hb hlen
 go_enter Tryz.func27, Tryz.ntmps27
 have hlt0 := Aside0.mk hlt
 go_wp2_with fail
 go_region
 go_wp2_with ((go_at_call 28; (refine (take_at w0 g nm nn cn st x lg (by have := HL.out; first | omega | (simp only [List.length_append, List.length_cons, List.length_nil]; omega)) W _ HWK.out (by first | exact Below.refl _ _ | (with_reducible repeat (first | exact Below.refl _ _ | apply pw_below_drewN | apply below_drew1 | apply below_alloc)))).mono ?_; rintro e w1 ⟨rfl, hwk, hfr⟩; have HW1 := Aside0.mk hwk; have B4 : w1.heap[W.heap.size + 1]? = some (.cells #[.string ⟨#[71, 32]⟩, .int .i64 6, .int .i64 6, .int .i64 0] 53) := hfr _ _ (blk_drew (blk_new2 W _ _)) (by have := hlt0.out; omega); clear hwk hfr HWK)))
 obtain ⟨wv, hwv⟩ : ∃ wv, wv = w1.alloc (.cells #[.string x.f0, .int .i64 x.f1] 61) := ⟨_, rfl⟩
 have C5 : wv.heap[w1.heap.size]? = some (.cells #[.string x.f0, .int .i64 x.f1] 61) := by rw [hwv]; exact blk_new _ _
 have C4 : wv.heap[W.heap.size + 1]? = some (.cells #[.string ⟨#[71, 32]⟩, .int .i64 6, .int .i64 6, .int .i64 0] 53) := by rw [hwv]; exact blk_alloc B4 _
 have HB3 : Aside0 (Below w1.heap.size w1 wv) := ⟨by rw [hwv]; exact below_alloc (Below.refl _ _) _⟩
 rw [← hwv]
 clear hwv B4
 have hne : W.heap.size + 1 ≠ g := by have := hlt0.out; omega
 have dwv40 : wv.cell? ⟨W.heap.size + 1, 0, none⟩ = some (.string ⟨#[71, 32]⟩) := (blk_cell C4 0).trans rfl
 have dwv41 : wv.cell? ⟨W.heap.size + 1, 1, none⟩ = some (.int .i64 6) := (blk_cell C4 1).trans rfl
 have dwv42 : wv.cell? ⟨W.heap.size + 1, 2, none⟩ = some (.int .i64 6) := (blk_cell C4 2).trans rfl
 have dwv43 : wv.cell? ⟨W.heap.size + 1, 3, none⟩ = some (.int .i64 0) := (blk_cell C4 3).trans rfl
 have dwvp0 : wv.cell? ⟨w1.heap.size, 0, none⟩ = some (.string x.f0) := (blk_cell C5 0).trans rfl
 have dwvq0 : wv.cell? ⟨w1.heap.size, 1, none⟩ = some (.int .i64 x.f1) := (blk_cell C5 1).trans rfl
 go_region_held3 (fun w' => w'.cell? ⟨W.heap.size + 1, 0, none⟩ = some (.string ⟨#[71, 32]⟩) ∧ w'.cell? ⟨W.heap.size + 1, 1, none⟩ = some (.int .i64 6) ∧ w'.cell? ⟨W.heap.size + 1, 2, none⟩ = some (.int .i64 6) ∧ w'.cell? ⟨W.heap.size + 1, 3, none⟩ = some (.int .i64 0) ∧ w'.cell? ⟨w1.heap.size, 0, none⟩ = some (.string x.f0) ∧ w'.cell? ⟨w1.heap.size, 1, none⟩ = some (.int .i64 x.f1)) (first | exact ⟨by assumption, by assumption, by assumption, by assumption, by assumption, by assumption⟩ | go_keep) ((first | (go_at_call 39; with_reducible refine (show_piece_within.calls _ _ _ _ _ ha).mono ?_; rintro e wq ⟨rfl, hq⟩; replace C4 := (hq.block _ (blk_lt C4)).trans C4; replace C5 := (hq.block _ (blk_lt C5)).trans C5; replace HB3 : Aside0 (Below w1.heap.size w1 wq) := ⟨by first | exact below_step HB3.out hq | exact below_step (below_drew1 HB3.out) hq⟩; clear hq; have dwq40 : wq.cell? ⟨W.heap.size + 1, 0, none⟩ = some (.string ⟨#[71, 32]⟩) := (blk_cell C4 0).trans rfl; have dwq41 : wq.cell? ⟨W.heap.size + 1, 1, none⟩ = some (.int .i64 6) := (blk_cell C4 1).trans rfl; have dwq42 : wq.cell? ⟨W.heap.size + 1, 2, none⟩ = some (.int .i64 6) := (blk_cell C4 2).trans rfl; have dwq43 : wq.cell? ⟨W.heap.size + 1, 3, none⟩ = some (.int .i64 0) := (blk_cell C4 3).trans rfl; have dwqp0 : wq.cell? ⟨w1.heap.size, 0, none⟩ = some (.string x.f0) := (blk_cell C5 0).trans rfl; have dwqq0 : wq.cell? ⟨w1.heap.size, 1, none⟩ = some (.int .i64 x.f1) := (blk_cell C5 1).trans rfl) | (go_at_call 38; refine (put_at w0 g nm nn cn st lg _ _ (by have := HL.out; omega) w1 _ HW1.out HB3.out).mono ?_; rintro e wz ⟨rfl, hwk, hf1, hf2⟩; have HPK := Aside0.mk hwk; replace C4 := hf2 _ _ _ C4 (by decide) hne; replace C5 := hf1 _ _ C5 (Nat.le_refl _); clear hwk hf1 hf2; have dwz40 : wz.cell? ⟨W.heap.size + 1, 0, none⟩ = some (.string ⟨#[71, 32]⟩) := (blk_cell C4 0).trans rfl; have dwz41 : wz.cell? ⟨W.heap.size + 1, 1, none⟩ = some (.int .i64 6) := (blk_cell C4 1).trans rfl; have dwz42 : wz.cell? ⟨W.heap.size + 1, 2, none⟩ = some (.int .i64 6) := (blk_cell C4 2).trans rfl; have dwz43 : wz.cell? ⟨W.heap.size + 1, 3, none⟩ = some (.int .i64 0) := (blk_cell C4 3).trans rfl; have dwzp0 : wz.cell? ⟨w1.heap.size, 0, none⟩ = some (.string x.f0) := (blk_cell C5 0).trans rfl; have dwzq0 : wz.cell? ⟨w1.heap.size, 1, none⟩ = some (.int .i64 x.f1) := (blk_cell C5 1).trans rfl)))
 all_goals go_wp2_with fail
 all_goals go_end0
 all_goals exact ⟨rfl, HPK.out⟩
 done
set_option maxHeartbeats 16000000 in
set_option maxRecDepth 100000 in
theorem tok_17 (w0 : World) (g : Nat) (nm : Option Addr) (nn cn : Nat) (st : List S61) (y x : S61) (lg : Bool) (arg : Int) (hlen : st.length ≤ 900) (ta : ByteArray) (ha : show_piece_within.f x.f0 x.f1 6 = some ta) (sa : ta.size ≤ 4098) (hb : y.f0.size ≤ 4096) (W : World) (h : WkAt w0 g nm nn cn W ((st ++ [y]) ++ [x]) lg) :
  Calls Tryz.prog 27 #[.pointer (some ⟨g, 0, none⟩), .agg #[.int .u8 17, .int .u8 arg]] W fun e w' => e = .returned (.tuple #[]) ∧ WkAt w0 g nm nn cn w' (putP st (((⟨#[60]⟩ ++ y.f0) ++ ⟨#[62, 32]⟩) ++ ta) 6) (putLg lg (((⟨#[60]⟩ ++ y.f0) ++ ⟨#[62, 32]⟩) ++ ta)) := by
 have HWK := Aside0.mk h
 have HL := Aside0.mk hlen
 obtain ⟨vs, hb, hg, hR, hB⟩ := h
 have c0 : W.cell? ⟨g, 69, none⟩ = some (.string ⟨#[62, 32]⟩) := (blk_cell hb 69).trans rfl
 have c1 : W.cell? ⟨g, 70, none⟩ = some (.int .i64 6) := (blk_cell hb 70).trans rfl
 have c2 : W.cell? ⟨g, 71, none⟩ = some (.int .i64 0) := (blk_cell hb 71).trans rfl
 have c3 : W.cell? ⟨g, 72, none⟩ = some (.int .i64 6) := (blk_cell hb 72).trans rfl
 have hlt := blk_lt hb
 have z0 : (9223372036854775807 < 1 + y.f0.size) = False := eq_false (by omega)
 have zd0 : decide (9223372036854775807 < 1 + y.f0.size) = false := decide_eq_false (by omega)
 have z1 : (9223372036854775807 < 1 + y.f0.size + 2) = False := eq_false (by omega)
 have zd1 : decide (9223372036854775807 < 1 + y.f0.size + 2) = false := decide_eq_false (by omega)
 have z2 : (9223372036854775807 < 1 + y.f0.size + 2 + ta.size) = False := eq_false (by omega)
 have zd2 : decide (9223372036854775807 < 1 + y.f0.size + 2 + ta.size) = false := decide_eq_false (by omega)
 clear hg hR hB hb hlen
 go_enter Tryz.func27, Tryz.ntmps27
 have hlt0 := Aside0.mk hlt
 go_wp2_with fail
 go_region
 go_wp2_with (first | (go_at_call 28; (refine (take_at w0 g nm nn cn (st ++ [y]) x lg (by have := HL.out; first | omega | (simp only [List.length_append, List.length_cons, List.length_nil]; omega)) W _ HWK.out (by first | exact Below.refl _ _ | (with_reducible repeat (first | exact Below.refl _ _ | apply pw_below_drewN | apply below_drew1 | apply below_alloc)))).mono ?_; rintro e w1 ⟨rfl, hwk, hfr⟩; have HW1 := Aside0.mk hwk; have B4 : w1.heap[W.heap.size + 1]? = some (.cells #[.string ⟨#[62, 32]⟩, .int .i64 6, .int .i64 0, .int .i64 6] 53) := hfr _ _ (blk_drew (blk_new2 W _ _)) (by have := hlt0.out; omega); have B3 : w1.heap[W.heap.size]? = some (.cells #[.int .u8 17, .int .u8 arg] 41) := hfr _ _ (blk_drew (blk_alloc (blk_new W _) _)) (by have := hlt0.out; omega); clear hwk hfr HWK)) | (go_at_call 28; (refine (take_at w0 g nm nn cn st y lg (by have := HL.out; first | omega | (simp only [List.length_append, List.length_cons, List.length_nil]; omega)) w1 _ HW1.out (by first | exact Below.refl _ _ | (with_reducible repeat (first | exact Below.refl _ _ | apply pw_below_drewN | apply below_drew1 | apply below_alloc)))).mono ?_; rintro e w2 ⟨rfl, hwk, hfr⟩; have HW2 := Aside0.mk hwk; have B4 : w2.heap[W.heap.size + 1]? = some (.cells #[.string ⟨#[62, 32]⟩, .int .i64 6, .int .i64 0, .int .i64 6] 53) := hfr _ _ (B4) (by have := hlt0.out; omega); have B3 : w2.heap[W.heap.size]? = some (.cells #[.int .u8 17, .int .u8 arg] 41) := hfr _ _ (B3) (by have := hlt0.out; omega); clear hwk hfr HW1; have e30 : w2.cell? ⟨W.heap.size, 0, none⟩ = some (.int .u8 17) := (blk_cell B3 0).trans rfl; have q2 := blk_lt B3; have q3 : W.heap.size ≠ w2.heap.size := (by omega); have q4 : W.heap.size ≠ w2.heap.size + 1 := (by omega); have q5 : W.heap.size < w2.heap.size + 1 := (by omega))))
 obtain ⟨wv, hwv⟩ : ∃ wv, wv = (w2.alloc (.cells #[.string x.f0, .int .i64 x.f1] 61)).alloc (.cells #[.string y.f0, .int .i64 y.f1] 61) := ⟨_, rfl⟩
 have C5 : wv.heap[w2.heap.size]? = some (.cells #[.string x.f0, .int .i64 x.f1] 61) := by rw [hwv]; exact blk_alloc (blk_new _ _) _
 have C6 : wv.heap[w2.heap.size + 1]? = some (.cells #[.string y.f0, .int .i64 y.f1] 61) := by rw [hwv]; exact blk_new2 _ _ _
 have C4 : wv.heap[W.heap.size + 1]? = some (.cells #[.string ⟨#[62, 32]⟩, .int .i64 6, .int .i64 0, .int .i64 6] 53) := by rw [hwv]; exact blk_alloc (blk_alloc B4 _) _
 have HB3 : Aside0 (Below w2.heap.size w2 wv) := ⟨by rw [hwv]; exact below_alloc (below_alloc (Below.refl _ _) _) _⟩
 have C3 : wv.heap[W.heap.size]? = some (.cells #[.int .u8 17, .int .u8 arg] 41) := by rw [hwv]; exact blk_alloc (blk_alloc B3 _) _
 rw [← hwv]
 clear hwv B4
 have hne : W.heap.size + 1 ≠ g := by have := hlt0.out; omega
 have dwv40 : wv.cell? ⟨W.heap.size + 1, 0, none⟩ = some (.string ⟨#[62, 32]⟩) := (blk_cell C4 0).trans rfl
 have dwv41 : wv.cell? ⟨W.heap.size + 1, 1, none⟩ = some (.int .i64 6) := (blk_cell C4 1).trans rfl
 have dwv42 : wv.cell? ⟨W.heap.size + 1, 2, none⟩ = some (.int .i64 0) := (blk_cell C4 2).trans rfl
 have dwv43 : wv.cell? ⟨W.heap.size + 1, 3, none⟩ = some (.int .i64 6) := (blk_cell C4 3).trans rfl
 have dwvp0 : wv.cell? ⟨w2.heap.size, 0, none⟩ = some (.string x.f0) := (blk_cell C5 0).trans rfl
 have dwvq0 : wv.cell? ⟨w2.heap.size, 1, none⟩ = some (.int .i64 x.f1) := (blk_cell C5 1).trans rfl
 have dwvp1 : wv.cell? ⟨w2.heap.size + 1, 0, none⟩ = some (.string y.f0) := (blk_cell C6 0).trans rfl
 have dwvq1 : wv.cell? ⟨w2.heap.size + 1, 1, none⟩ = some (.int .i64 y.f1) := (blk_cell C6 1).trans rfl
 have d30 : wv.cell? ⟨W.heap.size, 0, none⟩ = some (.int .u8 17) := (blk_cell C3 0).trans rfl
 go_region_held3 (fun w' => w'.cell? ⟨W.heap.size + 1, 0, none⟩ = some (.string ⟨#[62, 32]⟩) ∧ w'.cell? ⟨W.heap.size + 1, 1, none⟩ = some (.int .i64 6) ∧ w'.cell? ⟨W.heap.size + 1, 2, none⟩ = some (.int .i64 0) ∧ w'.cell? ⟨W.heap.size + 1, 3, none⟩ = some (.int .i64 6) ∧ w'.cell? ⟨w2.heap.size, 0, none⟩ = some (.string x.f0) ∧ w'.cell? ⟨w2.heap.size, 1, none⟩ = some (.int .i64 x.f1) ∧ w'.cell? ⟨w2.heap.size + 1, 0, none⟩ = some (.string y.f0) ∧ w'.cell? ⟨w2.heap.size + 1, 1, none⟩ = some (.int .i64 y.f1)) (first | exact ⟨by assumption, by assumption, by assumption, by assumption, by assumption, by assumption, by assumption, by assumption⟩ | go_keep) ((first | (go_at_call 39; with_reducible refine (show_piece_within.calls _ _ _ _ _ ha).mono ?_; rintro e wq ⟨rfl, hq⟩; replace C4 := (hq.block _ (blk_lt C4)).trans C4; replace C5 := (hq.block _ (blk_lt C5)).trans C5; replace C6 := (hq.block _ (blk_lt C6)).trans C6; replace HB3 : Aside0 (Below w2.heap.size w2 wq) := ⟨by first | exact below_step HB3.out hq | exact below_step (below_drew1 HB3.out) hq⟩; clear hq; have dwq40 : wq.cell? ⟨W.heap.size + 1, 0, none⟩ = some (.string ⟨#[62, 32]⟩) := (blk_cell C4 0).trans rfl; have dwq41 : wq.cell? ⟨W.heap.size + 1, 1, none⟩ = some (.int .i64 6) := (blk_cell C4 1).trans rfl; have dwq42 : wq.cell? ⟨W.heap.size + 1, 2, none⟩ = some (.int .i64 0) := (blk_cell C4 2).trans rfl; have dwq43 : wq.cell? ⟨W.heap.size + 1, 3, none⟩ = some (.int .i64 6) := (blk_cell C4 3).trans rfl; have dwqp0 : wq.cell? ⟨w2.heap.size, 0, none⟩ = some (.string x.f0) := (blk_cell C5 0).trans rfl; have dwqq0 : wq.cell? ⟨w2.heap.size, 1, none⟩ = some (.int .i64 x.f1) := (blk_cell C5 1).trans rfl; have dwqp1 : wq.cell? ⟨w2.heap.size + 1, 0, none⟩ = some (.string y.f0) := (blk_cell C6 0).trans rfl; have dwqq1 : wq.cell? ⟨w2.heap.size + 1, 1, none⟩ = some (.int .i64 y.f1) := (blk_cell C6 1).trans rfl) | (go_at_call 38; refine (put_at w0 g nm nn cn st lg _ _ (by have := HL.out; omega) w2 _ HW2.out HB3.out).mono ?_; rintro e wz ⟨rfl, hwk, hf1, hf2⟩; have HPK := Aside0.mk hwk; replace C4 := hf2 _ _ _ C4 (by decide) hne; replace C5 := hf1 _ _ C5 (Nat.le_refl _); replace C6 := hf1 _ _ C6 (Nat.le_add_right _ _); clear hwk hf1 hf2; have dwz40 : wz.cell? ⟨W.heap.size + 1, 0, none⟩ = some (.string ⟨#[62, 32]⟩) := (blk_cell C4 0).trans rfl; have dwz41 : wz.cell? ⟨W.heap.size + 1, 1, none⟩ = some (.int .i64 6) := (blk_cell C4 1).trans rfl; have dwz42 : wz.cell? ⟨W.heap.size + 1, 2, none⟩ = some (.int .i64 0) := (blk_cell C4 2).trans rfl; have dwz43 : wz.cell? ⟨W.heap.size + 1, 3, none⟩ = some (.int .i64 6) := (blk_cell C4 3).trans rfl; have dwzp0 : wz.cell? ⟨w2.heap.size, 0, none⟩ = some (.string x.f0) := (blk_cell C5 0).trans rfl; have dwzq0 : wz.cell? ⟨w2.heap.size, 1, none⟩ = some (.int .i64 x.f1) := (blk_cell C5 1).trans rfl; have dwzp1 : wz.cell? ⟨w2.heap.size + 1, 0, none⟩ = some (.string y.f0) := (blk_cell C6 0).trans rfl; have dwzq1 : wz.cell? ⟨w2.heap.size + 1, 1, none⟩ = some (.int .i64 y.f1) := (blk_cell C6 1).trans rfl)))
 all_goals go_wp2_with fail
 all_goals go_end0
 all_goals exact ⟨rfl, HPK.out⟩
 done
set_option maxHeartbeats 16000000 in
set_option maxRecDepth 100000 in
theorem tok_18 (w0 : World) (g : Nat) (nm : Option Addr) (nn cn : Nat) (st : List S61) (y x : S61) (lg : Bool) (arg : Int) (hlen : st.length ≤ 900) (ta : ByteArray) (ha : show_piece_within.f x.f0 x.f1 6 = some ta) (sa : ta.size ≤ 4098) (hb : y.f0.size ≤ 4096) (W : World) (h : WkAt w0 g nm nn cn W ((st ++ [y]) ++ [x]) lg) :
  Calls Tryz.prog 27 #[.pointer (some ⟨g, 0, none⟩), .agg #[.int .u8 18, .int .u8 arg]] W fun e w' => e = .returned (.tuple #[]) ∧ WkAt w0 g nm nn cn w' (putP st (((⟨#[91]⟩ ++ y.f0) ++ ⟨#[93, 32]⟩) ++ ta) 6) (putLg lg (((⟨#[91]⟩ ++ y.f0) ++ ⟨#[93, 32]⟩) ++ ta)) := by
 have HWK := Aside0.mk h
 have HL := Aside0.mk hlen
 obtain ⟨vs, hb, hg, hR, hB⟩ := h
 have c0 : W.cell? ⟨g, 73, none⟩ = some (.string ⟨#[93, 32]⟩) := (blk_cell hb 73).trans rfl
 have c1 : W.cell? ⟨g, 74, none⟩ = some (.int .i64 6) := (blk_cell hb 74).trans rfl
 have c2 : W.cell? ⟨g, 75, none⟩ = some (.int .i64 0) := (blk_cell hb 75).trans rfl
 have c3 : W.cell? ⟨g, 76, none⟩ = some (.int .i64 6) := (blk_cell hb 76).trans rfl
 have hlt := blk_lt hb
 have z0 : (9223372036854775807 < 1 + y.f0.size) = False := eq_false (by omega)
 have zd0 : decide (9223372036854775807 < 1 + y.f0.size) = false := decide_eq_false (by omega)
 have z1 : (9223372036854775807 < 1 + y.f0.size + 2) = False := eq_false (by omega)
 have zd1 : decide (9223372036854775807 < 1 + y.f0.size + 2) = false := decide_eq_false (by omega)
 have z2 : (9223372036854775807 < 1 + y.f0.size + 2 + ta.size) = False := eq_false (by omega)
 have zd2 : decide (9223372036854775807 < 1 + y.f0.size + 2 + ta.size) = false := decide_eq_false (by omega)
 clear hg hR hB hb hlen
 go_enter Tryz.func27, Tryz.ntmps27
 have hlt0 := Aside0.mk hlt
 go_wp2_with fail
 go_region
 go_wp2_with (first | (go_at_call 28; (refine (take_at w0 g nm nn cn (st ++ [y]) x lg (by have := HL.out; first | omega | (simp only [List.length_append, List.length_cons, List.length_nil]; omega)) W _ HWK.out (by first | exact Below.refl _ _ | (with_reducible repeat (first | exact Below.refl _ _ | apply pw_below_drewN | apply below_drew1 | apply below_alloc)))).mono ?_; rintro e w1 ⟨rfl, hwk, hfr⟩; have HW1 := Aside0.mk hwk; have B4 : w1.heap[W.heap.size + 1]? = some (.cells #[.string ⟨#[93, 32]⟩, .int .i64 6, .int .i64 0, .int .i64 6] 53) := hfr _ _ (blk_drew (blk_new2 W _ _)) (by have := hlt0.out; omega); have B3 : w1.heap[W.heap.size]? = some (.cells #[.int .u8 18, .int .u8 arg] 41) := hfr _ _ (blk_drew (blk_alloc (blk_new W _) _)) (by have := hlt0.out; omega); clear hwk hfr HWK)) | (go_at_call 28; (refine (take_at w0 g nm nn cn st y lg (by have := HL.out; first | omega | (simp only [List.length_append, List.length_cons, List.length_nil]; omega)) w1 _ HW1.out (by first | exact Below.refl _ _ | (with_reducible repeat (first | exact Below.refl _ _ | apply pw_below_drewN | apply below_drew1 | apply below_alloc)))).mono ?_; rintro e w2 ⟨rfl, hwk, hfr⟩; have HW2 := Aside0.mk hwk; have B4 : w2.heap[W.heap.size + 1]? = some (.cells #[.string ⟨#[93, 32]⟩, .int .i64 6, .int .i64 0, .int .i64 6] 53) := hfr _ _ (B4) (by have := hlt0.out; omega); have B3 : w2.heap[W.heap.size]? = some (.cells #[.int .u8 18, .int .u8 arg] 41) := hfr _ _ (B3) (by have := hlt0.out; omega); clear hwk hfr HW1; have e30 : w2.cell? ⟨W.heap.size, 0, none⟩ = some (.int .u8 18) := (blk_cell B3 0).trans rfl; have q2 := blk_lt B3; have q3 : W.heap.size ≠ w2.heap.size := (by omega); have q4 : W.heap.size ≠ w2.heap.size + 1 := (by omega); have q5 : W.heap.size < w2.heap.size + 1 := (by omega))))
 obtain ⟨wv, hwv⟩ : ∃ wv, wv = (w2.alloc (.cells #[.string x.f0, .int .i64 x.f1] 61)).alloc (.cells #[.string y.f0, .int .i64 y.f1] 61) := ⟨_, rfl⟩
 have C5 : wv.heap[w2.heap.size]? = some (.cells #[.string x.f0, .int .i64 x.f1] 61) := by rw [hwv]; exact blk_alloc (blk_new _ _) _
 have C6 : wv.heap[w2.heap.size + 1]? = some (.cells #[.string y.f0, .int .i64 y.f1] 61) := by rw [hwv]; exact blk_new2 _ _ _
 have C4 : wv.heap[W.heap.size + 1]? = some (.cells #[.string ⟨#[93, 32]⟩, .int .i64 6, .int .i64 0, .int .i64 6] 53) := by rw [hwv]; exact blk_alloc (blk_alloc B4 _) _
 have HB3 : Aside0 (Below w2.heap.size w2 wv) := ⟨by rw [hwv]; exact below_alloc (below_alloc (Below.refl _ _) _) _⟩
 have C3 : wv.heap[W.heap.size]? = some (.cells #[.int .u8 18, .int .u8 arg] 41) := by rw [hwv]; exact blk_alloc (blk_alloc B3 _) _
 rw [← hwv]
 clear hwv B4
 have hne : W.heap.size + 1 ≠ g := by have := hlt0.out; omega
 have dwv40 : wv.cell? ⟨W.heap.size + 1, 0, none⟩ = some (.string ⟨#[93, 32]⟩) := (blk_cell C4 0).trans rfl
 have dwv41 : wv.cell? ⟨W.heap.size + 1, 1, none⟩ = some (.int .i64 6) := (blk_cell C4 1).trans rfl
 have dwv42 : wv.cell? ⟨W.heap.size + 1, 2, none⟩ = some (.int .i64 0) := (blk_cell C4 2).trans rfl
 have dwv43 : wv.cell? ⟨W.heap.size + 1, 3, none⟩ = some (.int .i64 6) := (blk_cell C4 3).trans rfl
 have dwvp0 : wv.cell? ⟨w2.heap.size, 0, none⟩ = some (.string x.f0) := (blk_cell C5 0).trans rfl
 have dwvq0 : wv.cell? ⟨w2.heap.size, 1, none⟩ = some (.int .i64 x.f1) := (blk_cell C5 1).trans rfl
 have dwvp1 : wv.cell? ⟨w2.heap.size + 1, 0, none⟩ = some (.string y.f0) := (blk_cell C6 0).trans rfl
 have dwvq1 : wv.cell? ⟨w2.heap.size + 1, 1, none⟩ = some (.int .i64 y.f1) := (blk_cell C6 1).trans rfl
 have d30 : wv.cell? ⟨W.heap.size, 0, none⟩ = some (.int .u8 18) := (blk_cell C3 0).trans rfl
 go_region_held3 (fun w' => w'.cell? ⟨W.heap.size + 1, 0, none⟩ = some (.string ⟨#[93, 32]⟩) ∧ w'.cell? ⟨W.heap.size + 1, 1, none⟩ = some (.int .i64 6) ∧ w'.cell? ⟨W.heap.size + 1, 2, none⟩ = some (.int .i64 0) ∧ w'.cell? ⟨W.heap.size + 1, 3, none⟩ = some (.int .i64 6) ∧ w'.cell? ⟨w2.heap.size, 0, none⟩ = some (.string x.f0) ∧ w'.cell? ⟨w2.heap.size, 1, none⟩ = some (.int .i64 x.f1) ∧ w'.cell? ⟨w2.heap.size + 1, 0, none⟩ = some (.string y.f0) ∧ w'.cell? ⟨w2.heap.size + 1, 1, none⟩ = some (.int .i64 y.f1)) (first | exact ⟨by assumption, by assumption, by assumption, by assumption, by assumption, by assumption, by assumption, by assumption⟩ | go_keep) ((first | (go_at_call 39; with_reducible refine (show_piece_within.calls _ _ _ _ _ ha).mono ?_; rintro e wq ⟨rfl, hq⟩; replace C4 := (hq.block _ (blk_lt C4)).trans C4; replace C5 := (hq.block _ (blk_lt C5)).trans C5; replace C6 := (hq.block _ (blk_lt C6)).trans C6; replace HB3 : Aside0 (Below w2.heap.size w2 wq) := ⟨by first | exact below_step HB3.out hq | exact below_step (below_drew1 HB3.out) hq⟩; clear hq; have dwq40 : wq.cell? ⟨W.heap.size + 1, 0, none⟩ = some (.string ⟨#[93, 32]⟩) := (blk_cell C4 0).trans rfl; have dwq41 : wq.cell? ⟨W.heap.size + 1, 1, none⟩ = some (.int .i64 6) := (blk_cell C4 1).trans rfl; have dwq42 : wq.cell? ⟨W.heap.size + 1, 2, none⟩ = some (.int .i64 0) := (blk_cell C4 2).trans rfl; have dwq43 : wq.cell? ⟨W.heap.size + 1, 3, none⟩ = some (.int .i64 6) := (blk_cell C4 3).trans rfl; have dwqp0 : wq.cell? ⟨w2.heap.size, 0, none⟩ = some (.string x.f0) := (blk_cell C5 0).trans rfl; have dwqq0 : wq.cell? ⟨w2.heap.size, 1, none⟩ = some (.int .i64 x.f1) := (blk_cell C5 1).trans rfl; have dwqp1 : wq.cell? ⟨w2.heap.size + 1, 0, none⟩ = some (.string y.f0) := (blk_cell C6 0).trans rfl; have dwqq1 : wq.cell? ⟨w2.heap.size + 1, 1, none⟩ = some (.int .i64 y.f1) := (blk_cell C6 1).trans rfl) | (go_at_call 38; refine (put_at w0 g nm nn cn st lg _ _ (by have := HL.out; omega) w2 _ HW2.out HB3.out).mono ?_; rintro e wz ⟨rfl, hwk, hf1, hf2⟩; have HPK := Aside0.mk hwk; replace C4 := hf2 _ _ _ C4 (by decide) hne; replace C5 := hf1 _ _ C5 (Nat.le_refl _); replace C6 := hf1 _ _ C6 (Nat.le_add_right _ _); clear hwk hf1 hf2; have dwz40 : wz.cell? ⟨W.heap.size + 1, 0, none⟩ = some (.string ⟨#[93, 32]⟩) := (blk_cell C4 0).trans rfl; have dwz41 : wz.cell? ⟨W.heap.size + 1, 1, none⟩ = some (.int .i64 6) := (blk_cell C4 1).trans rfl; have dwz42 : wz.cell? ⟨W.heap.size + 1, 2, none⟩ = some (.int .i64 0) := (blk_cell C4 2).trans rfl; have dwz43 : wz.cell? ⟨W.heap.size + 1, 3, none⟩ = some (.int .i64 6) := (blk_cell C4 3).trans rfl; have dwzp0 : wz.cell? ⟨w2.heap.size, 0, none⟩ = some (.string x.f0) := (blk_cell C5 0).trans rfl; have dwzq0 : wz.cell? ⟨w2.heap.size, 1, none⟩ = some (.int .i64 x.f1) := (blk_cell C5 1).trans rfl; have dwzp1 : wz.cell? ⟨w2.heap.size + 1, 0, none⟩ = some (.string y.f0) := (blk_cell C6 0).trans rfl; have dwzq1 : wz.cell? ⟨w2.heap.size + 1, 1, none⟩ = some (.int .i64 y.f1) := (blk_cell C6 1).trans rfl)))
 all_goals go_wp2_with fail
 all_goals go_end0
 all_goals exact ⟨rfl, HPK.out⟩
 done
set_option maxHeartbeats 16000000 in
set_option maxRecDepth 100000 in
theorem tok_11 (w0 : World) (g : Nat) (nm : Option Addr) (nn cn : Nat) (st : List S61) (y x : S61) (lg : Bool) (arg : Int) (hlen : st.length ≤ 900) (tb : ByteArray) (hb : show_piece_within.f y.f0 y.f1 4 = some tb) (sb : tb.size ≤ 4098) (ta : ByteArray) (ha : show_piece_within.f x.f0 x.f1 5 = some ta) (sa : ta.size ≤ 4098) (W : World) (h : WkAt w0 g nm nn cn W ((st ++ [y]) ++ [x]) lg) :
  Calls Tryz.prog 27 #[.pointer (some ⟨g, 0, none⟩), .agg #[.int .u8 11, .int .u8 arg]] W fun e w' => e = .returned (.tuple #[]) ∧ WkAt w0 g nm nn cn w' (putP st ((tb ++ ⟨#[32, 38, 32]⟩) ++ ta) 4) (putLg lg ((tb ++ ⟨#[32, 38, 32]⟩) ++ ta)) := by
 have HWK := Aside0.mk h
 have HL := Aside0.mk hlen
 obtain ⟨vs, hb, hg, hR, hB⟩ := h
 have c0 : W.cell? ⟨g, 45, none⟩ = some (.string ⟨#[32, 38, 32]⟩) := (blk_cell hb 45).trans rfl
 have c1 : W.cell? ⟨g, 46, none⟩ = some (.int .i64 4) := (blk_cell hb 46).trans rfl
 have c2 : W.cell? ⟨g, 47, none⟩ = some (.int .i64 4) := (blk_cell hb 47).trans rfl
 have c3 : W.cell? ⟨g, 48, none⟩ = some (.int .i64 5) := (blk_cell hb 48).trans rfl
 have hlt := blk_lt hb
 have z0 : (9223372036854775807 < tb.size + 3) = False := eq_false (by omega)
 have zd0 : decide (9223372036854775807 < tb.size + 3) = false := decide_eq_false (by omega)
 have z1 : (9223372036854775807 < tb.size + 3 + ta.size) = False := eq_false (by omega)
 have zd1 : decide (9223372036854775807 < tb.size + 3 + ta.size) = false := decide_eq_false (by omega)
 clear hg hR hB hb hlen
 go_enter Tryz.func27, Tryz.ntmps27
 have hlt0 := Aside0.mk hlt
 go_wp2_with fail
 go_region
 go_wp2_with (first | (go_at_call 28; (refine (take_at w0 g nm nn cn (st ++ [y]) x lg (by have := HL.out; first | omega | (simp only [List.length_append, List.length_cons, List.length_nil]; omega)) W _ HWK.out (by first | exact Below.refl _ _ | (with_reducible repeat (first | exact Below.refl _ _ | apply pw_below_drewN | apply below_drew1 | apply below_alloc)))).mono ?_; rintro e w1 ⟨rfl, hwk, hfr⟩; have HW1 := Aside0.mk hwk; have B4 : w1.heap[W.heap.size + 1]? = some (.cells #[.string ⟨#[32, 38, 32]⟩, .int .i64 4, .int .i64 4, .int .i64 5] 53) := hfr _ _ (blk_drew (blk_new2 W _ _)) (by have := hlt0.out; omega); clear hwk hfr HWK)) | (go_at_call 28; (refine (take_at w0 g nm nn cn st y lg (by have := HL.out; first | omega | (simp only [List.length_append, List.length_cons, List.length_nil]; omega)) w1 _ HW1.out (by first | exact Below.refl _ _ | (with_reducible repeat (first | exact Below.refl _ _ | apply pw_below_drewN | apply below_drew1 | apply below_alloc)))).mono ?_; rintro e w2 ⟨rfl, hwk, hfr⟩; have HW2 := Aside0.mk hwk; have B4 : w2.heap[W.heap.size + 1]? = some (.cells #[.string ⟨#[32, 38, 32]⟩, .int .i64 4, .int .i64 4, .int .i64 5] 53) := hfr _ _ (B4) (by have := hlt0.out; omega); clear hwk hfr HW1)))
 obtain ⟨wv, hwv⟩ : ∃ wv, wv = (w2.alloc (.cells #[.string x.f0, .int .i64 x.f1] 61)).alloc (.cells #[.string y.f0, .int .i64 y.f1] 61) := ⟨_, rfl⟩
 have C5 : wv.heap[w2.heap.size]? = some (.cells #[.string x.f0, .int .i64 x.f1] 61) := by rw [hwv]; exact blk_alloc (blk_new _ _) _
 have C6 : wv.heap[w2.heap.size + 1]? = some (.cells #[.string y.f0, .int .i64 y.f1] 61) := by rw [hwv]; exact blk_new2 _ _ _
 have C4 : wv.heap[W.heap.size + 1]? = some (.cells #[.string ⟨#[32, 38, 32]⟩, .int .i64 4, .int .i64 4, .int .i64 5] 53) := by rw [hwv]; exact blk_alloc (blk_alloc B4 _) _
 have HB3 : Aside0 (Below w2.heap.size w2 wv) := ⟨by rw [hwv]; exact below_alloc (below_alloc (Below.refl _ _) _) _⟩
 rw [← hwv]
 clear hwv B4
 have hne : W.heap.size + 1 ≠ g := by have := hlt0.out; omega
 have dwv40 : wv.cell? ⟨W.heap.size + 1, 0, none⟩ = some (.string ⟨#[32, 38, 32]⟩) := (blk_cell C4 0).trans rfl
 have dwv41 : wv.cell? ⟨W.heap.size + 1, 1, none⟩ = some (.int .i64 4) := (blk_cell C4 1).trans rfl
 have dwv42 : wv.cell? ⟨W.heap.size + 1, 2, none⟩ = some (.int .i64 4) := (blk_cell C4 2).trans rfl
 have dwv43 : wv.cell? ⟨W.heap.size + 1, 3, none⟩ = some (.int .i64 5) := (blk_cell C4 3).trans rfl
 have dwvp0 : wv.cell? ⟨w2.heap.size, 0, none⟩ = some (.string x.f0) := (blk_cell C5 0).trans rfl
 have dwvq0 : wv.cell? ⟨w2.heap.size, 1, none⟩ = some (.int .i64 x.f1) := (blk_cell C5 1).trans rfl
 have dwvp1 : wv.cell? ⟨w2.heap.size + 1, 0, none⟩ = some (.string y.f0) := (blk_cell C6 0).trans rfl
 have dwvq1 : wv.cell? ⟨w2.heap.size + 1, 1, none⟩ = some (.int .i64 y.f1) := (blk_cell C6 1).trans rfl
 go_region_held3 (fun w' => w'.cell? ⟨W.heap.size + 1, 0, none⟩ = some (.string ⟨#[32, 38, 32]⟩) ∧ w'.cell? ⟨W.heap.size + 1, 1, none⟩ = some (.int .i64 4) ∧ w'.cell? ⟨W.heap.size + 1, 2, none⟩ = some (.int .i64 4) ∧ w'.cell? ⟨W.heap.size + 1, 3, none⟩ = some (.int .i64 5) ∧ w'.cell? ⟨w2.heap.size, 0, none⟩ = some (.string x.f0) ∧ w'.cell? ⟨w2.heap.size, 1, none⟩ = some (.int .i64 x.f1) ∧ w'.cell? ⟨w2.heap.size + 1, 0, none⟩ = some (.string y.f0) ∧ w'.cell? ⟨w2.heap.size + 1, 1, none⟩ = some (.int .i64 y.f1)) (first | exact ⟨by assumption, by assumption, by assumption, by assumption, by assumption, by assumption, by assumption, by assumption⟩ | go_keep) ((first | (go_at_call 39; with_reducible refine (show_piece_within.calls _ _ _ _ _ ha).mono ?_; rintro e wq ⟨rfl, hq⟩; replace C4 := (hq.block _ (blk_lt C4)).trans C4; replace C5 := (hq.block _ (blk_lt C5)).trans C5; replace C6 := (hq.block _ (blk_lt C6)).trans C6; replace HB3 : Aside0 (Below w2.heap.size w2 wq) := ⟨by first | exact below_step HB3.out hq | exact below_step (below_drew1 HB3.out) hq⟩; clear hq; have dwq40 : wq.cell? ⟨W.heap.size + 1, 0, none⟩ = some (.string ⟨#[32, 38, 32]⟩) := (blk_cell C4 0).trans rfl; have dwq41 : wq.cell? ⟨W.heap.size + 1, 1, none⟩ = some (.int .i64 4) := (blk_cell C4 1).trans rfl; have dwq42 : wq.cell? ⟨W.heap.size + 1, 2, none⟩ = some (.int .i64 4) := (blk_cell C4 2).trans rfl; have dwq43 : wq.cell? ⟨W.heap.size + 1, 3, none⟩ = some (.int .i64 5) := (blk_cell C4 3).trans rfl; have dwqp0 : wq.cell? ⟨w2.heap.size, 0, none⟩ = some (.string x.f0) := (blk_cell C5 0).trans rfl; have dwqq0 : wq.cell? ⟨w2.heap.size, 1, none⟩ = some (.int .i64 x.f1) := (blk_cell C5 1).trans rfl; have dwqp1 : wq.cell? ⟨w2.heap.size + 1, 0, none⟩ = some (.string y.f0) := (blk_cell C6 0).trans rfl; have dwqq1 : wq.cell? ⟨w2.heap.size + 1, 1, none⟩ = some (.int .i64 y.f1) := (blk_cell C6 1).trans rfl) | (go_at_call 39; with_reducible refine (show_piece_within.calls _ _ _ _ _ hb).mono ?_; rintro e wq ⟨rfl, hq⟩; replace C4 := (hq.block _ (blk_lt C4)).trans C4; replace C5 := (hq.block _ (blk_lt C5)).trans C5; replace C6 := (hq.block _ (blk_lt C6)).trans C6; replace HB3 : Aside0 (Below w2.heap.size w2 wq) := ⟨by first | exact below_step HB3.out hq | exact below_step (below_drew1 HB3.out) hq⟩; clear hq; have dwq40 : wq.cell? ⟨W.heap.size + 1, 0, none⟩ = some (.string ⟨#[32, 38, 32]⟩) := (blk_cell C4 0).trans rfl; have dwq41 : wq.cell? ⟨W.heap.size + 1, 1, none⟩ = some (.int .i64 4) := (blk_cell C4 1).trans rfl; have dwq42 : wq.cell? ⟨W.heap.size + 1, 2, none⟩ = some (.int .i64 4) := (blk_cell C4 2).trans rfl; have dwq43 : wq.cell? ⟨W.heap.size + 1, 3, none⟩ = some (.int .i64 5) := (blk_cell C4 3).trans rfl; have dwqp0 : wq.cell? ⟨w2.heap.size, 0, none⟩ = some (.string x.f0) := (blk_cell C5 0).trans rfl; have dwqq0 : wq.cell? ⟨w2.heap.size, 1, none⟩ = some (.int .i64 x.f1) := (blk_cell C5 1).trans rfl; have dwqp1 : wq.cell? ⟨w2.heap.size + 1, 0, none⟩ = some (.string y.f0) := (blk_cell C6 0).trans rfl; have dwqq1 : wq.cell? ⟨w2.heap.size + 1, 1, none⟩ = some (.int .i64 y.f1) := (blk_cell C6 1).trans rfl) | (go_at_call 38; refine (put_at w0 g nm nn cn st lg _ _ (by have := HL.out; omega) w2 _ HW2.out HB3.out).mono ?_; rintro e wz ⟨rfl, hwk, hf1, hf2⟩; have HPK := Aside0.mk hwk; replace C4 := hf2 _ _ _ C4 (by decide) hne; replace C5 := hf1 _ _ C5 (Nat.le_refl _); replace C6 := hf1 _ _ C6 (Nat.le_add_right _ _); clear hwk hf1 hf2; have dwz40 : wz.cell? ⟨W.heap.size + 1, 0, none⟩ = some (.string ⟨#[32, 38, 32]⟩) := (blk_cell C4 0).trans rfl; have dwz41 : wz.cell? ⟨W.heap.size + 1, 1, none⟩ = some (.int .i64 4) := (blk_cell C4 1).trans rfl; have dwz42 : wz.cell? ⟨W.heap.size + 1, 2, none⟩ = some (.int .i64 4) := (blk_cell C4 2).trans rfl; have dwz43 : wz.cell? ⟨W.heap.size + 1, 3, none⟩ = some (.int .i64 5) := (blk_cell C4 3).trans rfl; have dwzp0 : wz.cell? ⟨w2.heap.size, 0, none⟩ = some (.string x.f0) := (blk_cell C5 0).trans rfl; have dwzq0 : wz.cell? ⟨w2.heap.size, 1, none⟩ = some (.int .i64 x.f1) := (blk_cell C5 1).trans rfl; have dwzp1 : wz.cell? ⟨w2.heap.size + 1, 0, none⟩ = some (.string y.f0) := (blk_cell C6 0).trans rfl; have dwzq1 : wz.cell? ⟨w2.heap.size + 1, 1, none⟩ = some (.int .i64 y.f1) := (blk_cell C6 1).trans rfl)))
 all_goals go_wp2_with fail
 all_goals go_end0
 all_goals exact ⟨rfl, HPK.out⟩
 done
set_option maxHeartbeats 16000000 in
set_option maxRecDepth 100000 in
theorem tok_12 (w0 : World) (g : Nat) (nm : Option Addr) (nn cn : Nat) (st : List S61) (y x : S61) (lg : Bool) (arg : Int) (hlen : st.length ≤ 900) (tb : ByteArray) (hb : show_piece_within.f y.f0 y.f1 3 = some tb) (sb : tb.size ≤ 4098) (ta : ByteArray) (ha : show_piece_within.f x.f0 x.f1 4 = some ta) (sa : ta.size ≤ 4098) (W : World) (h : WkAt w0 g nm nn cn W ((st ++ [y]) ++ [x]) lg) :
  Calls Tryz.prog 27 #[.pointer (some ⟨g, 0, none⟩), .agg #[.int .u8 12, .int .u8 arg]] W fun e w' => e = .returned (.tuple #[]) ∧ WkAt w0 g nm nn cn w' (putP st ((tb ++ ⟨#[32, 124, 32]⟩) ++ ta) 3) (putLg lg ((tb ++ ⟨#[32, 124, 32]⟩) ++ ta)) := by
 have HWK := Aside0.mk h
 have HL := Aside0.mk hlen
 obtain ⟨vs, hb, hg, hR, hB⟩ := h
 have c0 : W.cell? ⟨g, 49, none⟩ = some (.string ⟨#[32, 124, 32]⟩) := (blk_cell hb 49).trans rfl
 have c1 : W.cell? ⟨g, 50, none⟩ = some (.int .i64 3) := (blk_cell hb 50).trans rfl
 have c2 : W.cell? ⟨g, 51, none⟩ = some (.int .i64 3) := (blk_cell hb 51).trans rfl
 have c3 : W.cell? ⟨g, 52, none⟩ = some (.int .i64 4) := (blk_cell hb 52).trans rfl
 have hlt := blk_lt hb
 have z0 : (9223372036854775807 < tb.size + 3) = False := eq_false (by omega)
 have zd0 : decide (9223372036854775807 < tb.size + 3) = false := decide_eq_false (by omega)
 have z1 : (9223372036854775807 < tb.size + 3 + ta.size) = False := eq_false (by omega)
 have zd1 : decide (9223372036854775807 < tb.size + 3 + ta.size) = false := decide_eq_false (by omega)
 clear hg hR hB hb hlen
 go_enter Tryz.func27, Tryz.ntmps27
 have hlt0 := Aside0.mk hlt
 go_wp2_with fail
 go_region
 go_wp2_with (first | (go_at_call 28; (refine (take_at w0 g nm nn cn (st ++ [y]) x lg (by have := HL.out; first | omega | (simp only [List.length_append, List.length_cons, List.length_nil]; omega)) W _ HWK.out (by first | exact Below.refl _ _ | (with_reducible repeat (first | exact Below.refl _ _ | apply pw_below_drewN | apply below_drew1 | apply below_alloc)))).mono ?_; rintro e w1 ⟨rfl, hwk, hfr⟩; have HW1 := Aside0.mk hwk; have B4 : w1.heap[W.heap.size + 1]? = some (.cells #[.string ⟨#[32, 124, 32]⟩, .int .i64 3, .int .i64 3, .int .i64 4] 53) := hfr _ _ (blk_drew (blk_new2 W _ _)) (by have := hlt0.out; omega); clear hwk hfr HWK)) | (go_at_call 28; (refine (take_at w0 g nm nn cn st y lg (by have := HL.out; first | omega | (simp only [List.length_append, List.length_cons, List.length_nil]; omega)) w1 _ HW1.out (by first | exact Below.refl _ _ | (with_reducible repeat (first | exact Below.refl _ _ | apply pw_below_drewN | apply below_drew1 | apply below_alloc)))).mono ?_; rintro e w2 ⟨rfl, hwk, hfr⟩; have HW2 := Aside0.mk hwk; have B4 : w2.heap[W.heap.size + 1]? = some (.cells #[.string ⟨#[32, 124, 32]⟩, .int .i64 3, .int .i64 3, .int .i64 4] 53) := hfr _ _ (B4) (by have := hlt0.out; omega); clear hwk hfr HW1)))
 obtain ⟨wv, hwv⟩ : ∃ wv, wv = (w2.alloc (.cells #[.string x.f0, .int .i64 x.f1] 61)).alloc (.cells #[.string y.f0, .int .i64 y.f1] 61) := ⟨_, rfl⟩
 have C5 : wv.heap[w2.heap.size]? = some (.cells #[.string x.f0, .int .i64 x.f1] 61) := by rw [hwv]; exact blk_alloc (blk_new _ _) _
 have C6 : wv.heap[w2.heap.size + 1]? = some (.cells #[.string y.f0, .int .i64 y.f1] 61) := by rw [hwv]; exact blk_new2 _ _ _
 have C4 : wv.heap[W.heap.size + 1]? = some (.cells #[.string ⟨#[32, 124, 32]⟩, .int .i64 3, .int .i64 3, .int .i64 4] 53) := by rw [hwv]; exact blk_alloc (blk_alloc B4 _) _
 have HB3 : Aside0 (Below w2.heap.size w2 wv) := ⟨by rw [hwv]; exact below_alloc (below_alloc (Below.refl _ _) _) _⟩
 rw [← hwv]
 clear hwv B4
 have hne : W.heap.size + 1 ≠ g := by have := hlt0.out; omega
 have dwv40 : wv.cell? ⟨W.heap.size + 1, 0, none⟩ = some (.string ⟨#[32, 124, 32]⟩) := (blk_cell C4 0).trans rfl
 have dwv41 : wv.cell? ⟨W.heap.size + 1, 1, none⟩ = some (.int .i64 3) := (blk_cell C4 1).trans rfl
 have dwv42 : wv.cell? ⟨W.heap.size + 1, 2, none⟩ = some (.int .i64 3) := (blk_cell C4 2).trans rfl
 have dwv43 : wv.cell? ⟨W.heap.size + 1, 3, none⟩ = some (.int .i64 4) := (blk_cell C4 3).trans rfl
 have dwvp0 : wv.cell? ⟨w2.heap.size, 0, none⟩ = some (.string x.f0) := (blk_cell C5 0).trans rfl
 have dwvq0 : wv.cell? ⟨w2.heap.size, 1, none⟩ = some (.int .i64 x.f1) := (blk_cell C5 1).trans rfl
 have dwvp1 : wv.cell? ⟨w2.heap.size + 1, 0, none⟩ = some (.string y.f0) := (blk_cell C6 0).trans rfl
 have dwvq1 : wv.cell? ⟨w2.heap.size + 1, 1, none⟩ = some (.int .i64 y.f1) := (blk_cell C6 1).trans rfl
 go_region_held3 (fun w' => w'.cell? ⟨W.heap.size + 1, 0, none⟩ = some (.string ⟨#[32, 124, 32]⟩) ∧ w'.cell? ⟨W.heap.size + 1, 1, none⟩ = some (.int .i64 3) ∧ w'.cell? ⟨W.heap.size + 1, 2, none⟩ = some (.int .i64 3) ∧ w'.cell? ⟨W.heap.size + 1, 3, none⟩ = some (.int .i64 4) ∧ w'.cell? ⟨w2.heap.size, 0, none⟩ = some (.string x.f0) ∧ w'.cell? ⟨w2.heap.size, 1, none⟩ = some (.int .i64 x.f1) ∧ w'.cell? ⟨w2.heap.size + 1, 0, none⟩ = some (.string y.f0) ∧ w'.cell? ⟨w2.heap.size + 1, 1, none⟩ = some (.int .i64 y.f1)) (first | exact ⟨by assumption, by assumption, by assumption, by assumption, by assumption, by assumption, by assumption, by assumption⟩ | go_keep) ((first | (go_at_call 39; with_reducible refine (show_piece_within.calls _ _ _ _ _ ha).mono ?_; rintro e wq ⟨rfl, hq⟩; replace C4 := (hq.block _ (blk_lt C4)).trans C4; replace C5 := (hq.block _ (blk_lt C5)).trans C5; replace C6 := (hq.block _ (blk_lt C6)).trans C6; replace HB3 : Aside0 (Below w2.heap.size w2 wq) := ⟨by first | exact below_step HB3.out hq | exact below_step (below_drew1 HB3.out) hq⟩; clear hq; have dwq40 : wq.cell? ⟨W.heap.size + 1, 0, none⟩ = some (.string ⟨#[32, 124, 32]⟩) := (blk_cell C4 0).trans rfl; have dwq41 : wq.cell? ⟨W.heap.size + 1, 1, none⟩ = some (.int .i64 3) := (blk_cell C4 1).trans rfl; have dwq42 : wq.cell? ⟨W.heap.size + 1, 2, none⟩ = some (.int .i64 3) := (blk_cell C4 2).trans rfl; have dwq43 : wq.cell? ⟨W.heap.size + 1, 3, none⟩ = some (.int .i64 4) := (blk_cell C4 3).trans rfl; have dwqp0 : wq.cell? ⟨w2.heap.size, 0, none⟩ = some (.string x.f0) := (blk_cell C5 0).trans rfl; have dwqq0 : wq.cell? ⟨w2.heap.size, 1, none⟩ = some (.int .i64 x.f1) := (blk_cell C5 1).trans rfl; have dwqp1 : wq.cell? ⟨w2.heap.size + 1, 0, none⟩ = some (.string y.f0) := (blk_cell C6 0).trans rfl; have dwqq1 : wq.cell? ⟨w2.heap.size + 1, 1, none⟩ = some (.int .i64 y.f1) := (blk_cell C6 1).trans rfl) | (go_at_call 39; with_reducible refine (show_piece_within.calls _ _ _ _ _ hb).mono ?_; rintro e wq ⟨rfl, hq⟩; replace C4 := (hq.block _ (blk_lt C4)).trans C4; replace C5 := (hq.block _ (blk_lt C5)).trans C5; replace C6 := (hq.block _ (blk_lt C6)).trans C6; replace HB3 : Aside0 (Below w2.heap.size w2 wq) := ⟨by first | exact below_step HB3.out hq | exact below_step (below_drew1 HB3.out) hq⟩; clear hq; have dwq40 : wq.cell? ⟨W.heap.size + 1, 0, none⟩ = some (.string ⟨#[32, 124, 32]⟩) := (blk_cell C4 0).trans rfl; have dwq41 : wq.cell? ⟨W.heap.size + 1, 1, none⟩ = some (.int .i64 3) := (blk_cell C4 1).trans rfl; have dwq42 : wq.cell? ⟨W.heap.size + 1, 2, none⟩ = some (.int .i64 3) := (blk_cell C4 2).trans rfl; have dwq43 : wq.cell? ⟨W.heap.size + 1, 3, none⟩ = some (.int .i64 4) := (blk_cell C4 3).trans rfl; have dwqp0 : wq.cell? ⟨w2.heap.size, 0, none⟩ = some (.string x.f0) := (blk_cell C5 0).trans rfl; have dwqq0 : wq.cell? ⟨w2.heap.size, 1, none⟩ = some (.int .i64 x.f1) := (blk_cell C5 1).trans rfl; have dwqp1 : wq.cell? ⟨w2.heap.size + 1, 0, none⟩ = some (.string y.f0) := (blk_cell C6 0).trans rfl; have dwqq1 : wq.cell? ⟨w2.heap.size + 1, 1, none⟩ = some (.int .i64 y.f1) := (blk_cell C6 1).trans rfl) | (go_at_call 38; refine (put_at w0 g nm nn cn st lg _ _ (by have := HL.out; omega) w2 _ HW2.out HB3.out).mono ?_; rintro e wz ⟨rfl, hwk, hf1, hf2⟩; have HPK := Aside0.mk hwk; replace C4 := hf2 _ _ _ C4 (by decide) hne; replace C5 := hf1 _ _ C5 (Nat.le_refl _); replace C6 := hf1 _ _ C6 (Nat.le_add_right _ _); clear hwk hf1 hf2; have dwz40 : wz.cell? ⟨W.heap.size + 1, 0, none⟩ = some (.string ⟨#[32, 124, 32]⟩) := (blk_cell C4 0).trans rfl; have dwz41 : wz.cell? ⟨W.heap.size + 1, 1, none⟩ = some (.int .i64 3) := (blk_cell C4 1).trans rfl; have dwz42 : wz.cell? ⟨W.heap.size + 1, 2, none⟩ = some (.int .i64 3) := (blk_cell C4 2).trans rfl; have dwz43 : wz.cell? ⟨W.heap.size + 1, 3, none⟩ = some (.int .i64 4) := (blk_cell C4 3).trans rfl; have dwzp0 : wz.cell? ⟨w2.heap.size, 0, none⟩ = some (.string x.f0) := (blk_cell C5 0).trans rfl; have dwzq0 : wz.cell? ⟨w2.heap.size, 1, none⟩ = some (.int .i64 x.f1) := (blk_cell C5 1).trans rfl; have dwzp1 : wz.cell? ⟨w2.heap.size + 1, 0, none⟩ = some (.string y.f0) := (blk_cell C6 0).trans rfl; have dwzq1 : wz.cell? ⟨w2.heap.size + 1, 1, none⟩ = some (.int .i64 y.f1) := (blk_cell C6 1).trans rfl)))
 all_goals go_wp2_with fail
 all_goals go_end0
 all_goals exact ⟨rfl, HPK.out⟩
 done
set_option maxHeartbeats 16000000 in
set_option maxRecDepth 100000 in
theorem tok_13 (w0 : World) (g : Nat) (nm : Option Addr) (nn cn : Nat) (st : List S61) (y x : S61) (lg : Bool) (arg : Int) (hlen : st.length ≤ 900) (tb : ByteArray) (hb : show_piece_within.f y.f0 y.f1 3 = some tb) (sb : tb.size ≤ 4098) (ta : ByteArray) (ha : show_piece_within.f x.f0 x.f1 2 = some ta) (sa : ta.size ≤ 4098) (W : World) (h : WkAt w0 g nm nn cn W ((st ++ [y]) ++ [x]) lg) :
  Calls Tryz.prog 27 #[.pointer (some ⟨g, 0, none⟩), .agg #[.int .u8 13, .int .u8 arg]] W fun e w' => e = .returned (.tuple #[]) ∧ WkAt w0 g nm nn cn w' (putP st ((tb ++ ⟨#[32, 45, 62, 32]⟩) ++ ta) 2) (putLg lg ((tb ++ ⟨#[32, 45, 62, 32]⟩) ++ ta)) := by
 have HWK := Aside0.mk h
 have HL := Aside0.mk hlen
 obtain ⟨vs, hb, hg, hR, hB⟩ := h
 have c0 : W.cell? ⟨g, 53, none⟩ = some (.string ⟨#[32, 45, 62, 32]⟩) := (blk_cell hb 53).trans rfl
 have c1 : W.cell? ⟨g, 54, none⟩ = some (.int .i64 2) := (blk_cell hb 54).trans rfl
 have c2 : W.cell? ⟨g, 55, none⟩ = some (.int .i64 3) := (blk_cell hb 55).trans rfl
 have c3 : W.cell? ⟨g, 56, none⟩ = some (.int .i64 2) := (blk_cell hb 56).trans rfl
 have hlt := blk_lt hb
 have z0 : (9223372036854775807 < tb.size + 4) = False := eq_false (by omega)
 have zd0 : decide (9223372036854775807 < tb.size + 4) = false := decide_eq_false (by omega)
 have z1 : (9223372036854775807 < tb.size + 4 + ta.size) = False := eq_false (by omega)
 have zd1 : decide (9223372036854775807 < tb.size + 4 + ta.size) = false := decide_eq_false (by omega)
 clear hg hR hB hb hlen
 go_enter Tryz.func27, Tryz.ntmps27
 have hlt0 := Aside0.mk hlt
 go_wp2_with fail
 go_region
 go_wp2_with (first | (go_at_call 28; (refine (take_at w0 g nm nn cn (st ++ [y]) x lg (by have := HL.out; first | omega | (simp only [List.length_append, List.length_cons, List.length_nil]; omega)) W _ HWK.out (by first | exact Below.refl _ _ | (with_reducible repeat (first | exact Below.refl _ _ | apply pw_below_drewN | apply below_drew1 | apply below_alloc)))).mono ?_; rintro e w1 ⟨rfl, hwk, hfr⟩; have HW1 := Aside0.mk hwk; have B4 : w1.heap[W.heap.size + 1]? = some (.cells #[.string ⟨#[32, 45, 62, 32]⟩, .int .i64 2, .int .i64 3, .int .i64 2] 53) := hfr _ _ (blk_drew (blk_new2 W _ _)) (by have := hlt0.out; omega); clear hwk hfr HWK)) | (go_at_call 28; (refine (take_at w0 g nm nn cn st y lg (by have := HL.out; first | omega | (simp only [List.length_append, List.length_cons, List.length_nil]; omega)) w1 _ HW1.out (by first | exact Below.refl _ _ | (with_reducible repeat (first | exact Below.refl _ _ | apply pw_below_drewN | apply below_drew1 | apply below_alloc)))).mono ?_; rintro e w2 ⟨rfl, hwk, hfr⟩; have HW2 := Aside0.mk hwk; have B4 : w2.heap[W.heap.size + 1]? = some (.cells #[.string ⟨#[32, 45, 62, 32]⟩, .int .i64 2, .int .i64 3, .int .i64 2] 53) := hfr _ _ (B4) (by have := hlt0.out; omega); clear hwk hfr HW1)))
 obtain ⟨wv, hwv⟩ : ∃ wv, wv = (w2.alloc (.cells #[.string x.f0, .int .i64 x.f1] 61)).alloc (.cells #[.string y.f0, .int .i64 y.f1] 61) := ⟨_, rfl⟩
 have C5 : wv.heap[w2.heap.size]? = some (.cells #[.string x.f0, .int .i64 x.f1] 61) := by rw [hwv]; exact blk_alloc (blk_new _ _) _
 have C6 : wv.heap[w2.heap.size + 1]? = some (.cells #[.string y.f0, .int .i64 y.f1] 61) := by rw [hwv]; exact blk_new2 _ _ _
 have C4 : wv.heap[W.heap.size + 1]? = some (.cells #[.string ⟨#[32, 45, 62, 32]⟩, .int .i64 2, .int .i64 3, .int .i64 2] 53) := by rw [hwv]; exact blk_alloc (blk_alloc B4 _) _
 have HB3 : Aside0 (Below w2.heap.size w2 wv) := ⟨by rw [hwv]; exact below_alloc (below_alloc (Below.refl _ _) _) _⟩
 rw [← hwv]
 clear hwv B4
 have hne : W.heap.size + 1 ≠ g := by have := hlt0.out; omega
 have dwv40 : wv.cell? ⟨W.heap.size + 1, 0, none⟩ = some (.string ⟨#[32, 45, 62, 32]⟩) := (blk_cell C4 0).trans rfl
 have dwv41 : wv.cell? ⟨W.heap.size + 1, 1, none⟩ = some (.int .i64 2) := (blk_cell C4 1).trans rfl
 have dwv42 : wv.cell? ⟨W.heap.size + 1, 2, none⟩ = some (.int .i64 3) := (blk_cell C4 2).trans rfl
 have dwv43 : wv.cell? ⟨W.heap.size + 1, 3, none⟩ = some (.int .i64 2) := (blk_cell C4 3).trans rfl
 have dwvp0 : wv.cell? ⟨w2.heap.size, 0, none⟩ = some (.string x.f0) := (blk_cell C5 0).trans rfl
 have dwvq0 : wv.cell? ⟨w2.heap.size, 1, none⟩ = some (.int .i64 x.f1) := (blk_cell C5 1).trans rfl
 have dwvp1 : wv.cell? ⟨w2.heap.size + 1, 0, none⟩ = some (.string y.f0) := (blk_cell C6 0).trans rfl
 have dwvq1 : wv.cell? ⟨w2.heap.size + 1, 1, none⟩ = some (.int .i64 y.f1) := (blk_cell C6 1).trans rfl
 go_region_held3 (fun w' => w'.cell? ⟨W.heap.size + 1, 0, none⟩ = some (.string ⟨#[32, 45, 62, 32]⟩) ∧ w'.cell? ⟨W.heap.size + 1, 1, none⟩ = some (.int .i64 2) ∧ w'.cell? ⟨W.heap.size + 1, 2, none⟩ = some (.int .i64 3) ∧ w'.cell? ⟨W.heap.size + 1, 3, none⟩ = some (.int .i64 2) ∧ w'.cell? ⟨w2.heap.size, 0, none⟩ = some (.string x.f0) ∧ w'.cell? ⟨w2.heap.size, 1, none⟩ = some (.int .i64 x.f1) ∧ w'.cell? ⟨w2.heap.size + 1, 0, none⟩ = some (.string y.f0) ∧ w'.cell? ⟨w2.heap.size + 1, 1, none⟩ = some (.int .i64 y.f1)) (first | exact ⟨by assumption, by assumption, by assumption, by assumption, by assumption, by assumption, by assumption, by assumption⟩ | go_keep) ((first | (go_at_call 39; with_reducible refine (show_piece_within.calls _ _ _ _ _ ha).mono ?_; rintro e wq ⟨rfl, hq⟩; replace C4 := (hq.block _ (blk_lt C4)).trans C4; replace C5 := (hq.block _ (blk_lt C5)).trans C5; replace C6 := (hq.block _ (blk_lt C6)).trans C6; replace HB3 : Aside0 (Below w2.heap.size w2 wq) := ⟨by first | exact below_step HB3.out hq | exact below_step (below_drew1 HB3.out) hq⟩; clear hq; have dwq40 : wq.cell? ⟨W.heap.size + 1, 0, none⟩ = some (.string ⟨#[32, 45, 62, 32]⟩) := (blk_cell C4 0).trans rfl; have dwq41 : wq.cell? ⟨W.heap.size + 1, 1, none⟩ = some (.int .i64 2) := (blk_cell C4 1).trans rfl; have dwq42 : wq.cell? ⟨W.heap.size + 1, 2, none⟩ = some (.int .i64 3) := (blk_cell C4 2).trans rfl; have dwq43 : wq.cell? ⟨W.heap.size + 1, 3, none⟩ = some (.int .i64 2) := (blk_cell C4 3).trans rfl; have dwqp0 : wq.cell? ⟨w2.heap.size, 0, none⟩ = some (.string x.f0) := (blk_cell C5 0).trans rfl; have dwqq0 : wq.cell? ⟨w2.heap.size, 1, none⟩ = some (.int .i64 x.f1) := (blk_cell C5 1).trans rfl; have dwqp1 : wq.cell? ⟨w2.heap.size + 1, 0, none⟩ = some (.string y.f0) := (blk_cell C6 0).trans rfl; have dwqq1 : wq.cell? ⟨w2.heap.size + 1, 1, none⟩ = some (.int .i64 y.f1) := (blk_cell C6 1).trans rfl) | (go_at_call 39; with_reducible refine (show_piece_within.calls _ _ _ _ _ hb).mono ?_; rintro e wq ⟨rfl, hq⟩; replace C4 := (hq.block _ (blk_lt C4)).trans C4; replace C5 := (hq.block _ (blk_lt C5)).trans C5; replace C6 := (hq.block _ (blk_lt C6)).trans C6; replace HB3 : Aside0 (Below w2.heap.size w2 wq) := ⟨by first | exact below_step HB3.out hq | exact below_step (below_drew1 HB3.out) hq⟩; clear hq; have dwq40 : wq.cell? ⟨W.heap.size + 1, 0, none⟩ = some (.string ⟨#[32, 45, 62, 32]⟩) := (blk_cell C4 0).trans rfl; have dwq41 : wq.cell? ⟨W.heap.size + 1, 1, none⟩ = some (.int .i64 2) := (blk_cell C4 1).trans rfl; have dwq42 : wq.cell? ⟨W.heap.size + 1, 2, none⟩ = some (.int .i64 3) := (blk_cell C4 2).trans rfl; have dwq43 : wq.cell? ⟨W.heap.size + 1, 3, none⟩ = some (.int .i64 2) := (blk_cell C4 3).trans rfl; have dwqp0 : wq.cell? ⟨w2.heap.size, 0, none⟩ = some (.string x.f0) := (blk_cell C5 0).trans rfl; have dwqq0 : wq.cell? ⟨w2.heap.size, 1, none⟩ = some (.int .i64 x.f1) := (blk_cell C5 1).trans rfl; have dwqp1 : wq.cell? ⟨w2.heap.size + 1, 0, none⟩ = some (.string y.f0) := (blk_cell C6 0).trans rfl; have dwqq1 : wq.cell? ⟨w2.heap.size + 1, 1, none⟩ = some (.int .i64 y.f1) := (blk_cell C6 1).trans rfl) | (go_at_call 38; refine (put_at w0 g nm nn cn st lg _ _ (by have := HL.out; omega) w2 _ HW2.out HB3.out).mono ?_; rintro e wz ⟨rfl, hwk, hf1, hf2⟩; have HPK := Aside0.mk hwk; replace C4 := hf2 _ _ _ C4 (by decide) hne; replace C5 := hf1 _ _ C5 (Nat.le_refl _); replace C6 := hf1 _ _ C6 (Nat.le_add_right _ _); clear hwk hf1 hf2; have dwz40 : wz.cell? ⟨W.heap.size + 1, 0, none⟩ = some (.string ⟨#[32, 45, 62, 32]⟩) := (blk_cell C4 0).trans rfl; have dwz41 : wz.cell? ⟨W.heap.size + 1, 1, none⟩ = some (.int .i64 2) := (blk_cell C4 1).trans rfl; have dwz42 : wz.cell? ⟨W.heap.size + 1, 2, none⟩ = some (.int .i64 3) := (blk_cell C4 2).trans rfl; have dwz43 : wz.cell? ⟨W.heap.size + 1, 3, none⟩ = some (.int .i64 2) := (blk_cell C4 3).trans rfl; have dwzp0 : wz.cell? ⟨w2.heap.size, 0, none⟩ = some (.string x.f0) := (blk_cell C5 0).trans rfl; have dwzq0 : wz.cell? ⟨w2.heap.size, 1, none⟩ = some (.int .i64 x.f1) := (blk_cell C5 1).trans rfl; have dwzp1 : wz.cell? ⟨w2.heap.size + 1, 0, none⟩ = some (.string y.f0) := (blk_cell C6 0).trans rfl; have dwzq1 : wz.cell? ⟨w2.heap.size + 1, 1, none⟩ = some (.int .i64 y.f1) := (blk_cell C6 1).trans rfl)))
 all_goals go_wp2_with fail
 all_goals go_end0
 all_goals exact ⟨rfl, HPK.out⟩
 done
set_option maxHeartbeats 16000000 in
set_option maxRecDepth 100000 in
theorem tok_14 (w0 : World) (g : Nat) (nm : Option Addr) (nn cn : Nat) (st : List S61) (y x : S61) (lg : Bool) (arg : Int) (hlen : st.length ≤ 900) (tb : ByteArray) (hb : show_piece_within.f y.f0 y.f1 1 = some tb) (sb : tb.size ≤ 4098) (ta : ByteArray) (ha : show_piece_within.f x.f0 x.f1 2 = some ta) (sa : ta.size ≤ 4098) (W : World) (h : WkAt w0 g nm nn cn W ((st ++ [y]) ++ [x]) lg) :
  Calls Tryz.prog 27 #[.pointer (some ⟨g, 0, none⟩), .agg #[.int .u8 14, .int .u8 arg]] W fun e w' => e = .returned (.tuple #[]) ∧ WkAt w0 g nm nn cn w' (putP st ((tb ++ ⟨#[32, 60, 45, 62, 32]⟩) ++ ta) 1) (putLg lg ((tb ++ ⟨#[32, 60, 45, 62, 32]⟩) ++ ta)) := by
 have HWK := Aside0.mk h
 have HL := Aside0.mk hlen
 obtain ⟨vs, hb, hg, hR, hB⟩ := h
 have c0 : W.cell? ⟨g, 57, none⟩ = some (.string ⟨#[32, 60, 45, 62, 32]⟩) := (blk_cell hb 57).trans rfl
 have c1 : W.cell? ⟨g, 58, none⟩ = some (.int .i64 1) := (blk_cell hb 58).trans rfl
 have c2 : W.cell? ⟨g, 59, none⟩ = some (.int .i64 1) := (blk_cell hb 59).trans rfl
 have c3 : W.cell? ⟨g, 60, none⟩ = some (.int .i64 2) := (blk_cell hb 60).trans rfl
 have hlt := blk_lt hb
 have z0 : (9223372036854775807 < tb.size + 5) = False := eq_false (by omega)
 have zd0 : decide (9223372036854775807 < tb.size + 5) = false := decide_eq_false (by omega)
 have z1 : (9223372036854775807 < tb.size + 5 + ta.size) = False := eq_false (by omega)
 have zd1 : decide (9223372036854775807 < tb.size + 5 + ta.size) = false := decide_eq_false (by omega)
 clear hg hR hB hb hlen
 go_enter Tryz.func27, Tryz.ntmps27
 have hlt0 := Aside0.mk hlt
 go_wp2_with fail
 go_region
 go_wp2_with (first | (go_at_call 28; (refine (take_at w0 g nm nn cn (st ++ [y]) x lg (by have := HL.out; first | omega | (simp only [List.length_append, List.length_cons, List.length_nil]; omega)) W _ HWK.out (by first | exact Below.refl _ _ | (with_reducible repeat (first | exact Below.refl _ _ | apply pw_below_drewN | apply below_drew1 | apply below_alloc)))).mono ?_; rintro e w1 ⟨rfl, hwk, hfr⟩; have HW1 := Aside0.mk hwk; have B4 : w1.heap[W.heap.size + 1]? = some (.cells #[.string ⟨#[32, 60, 45, 62, 32]⟩, .int .i64 1, .int .i64 1, .int .i64 2] 53) := hfr _ _ (blk_drew (blk_new2 W _ _)) (by have := hlt0.out; omega); clear hwk hfr HWK)) | (go_at_call 28; (refine (take_at w0 g nm nn cn st y lg (by have := HL.out; first | omega | (simp only [List.length_append, List.length_cons, List.length_nil]; omega)) w1 _ HW1.out (by first | exact Below.refl _ _ | (with_reducible repeat (first | exact Below.refl _ _ | apply pw_below_drewN | apply below_drew1 | apply below_alloc)))).mono ?_; rintro e w2 ⟨rfl, hwk, hfr⟩; have HW2 := Aside0.mk hwk; have B4 : w2.heap[W.heap.size + 1]? = some (.cells #[.string ⟨#[32, 60, 45, 62, 32]⟩, .int .i64 1, .int .i64 1, .int .i64 2] 53) := hfr _ _ (B4) (by have := hlt0.out; omega); clear hwk hfr HW1)))
 obtain ⟨wv, hwv⟩ : ∃ wv, wv = (w2.alloc (.cells #[.string x.f0, .int .i64 x.f1] 61)).alloc (.cells #[.string y.f0, .int .i64 y.f1] 61) := ⟨_, rfl⟩
 have C5 : wv.heap[w2.heap.size]? = some (.cells #[.string x.f0, .int .i64 x.f1] 61) := by rw [hwv]; exact blk_alloc (blk_new _ _) _
 have C6 : wv.heap[w2.heap.size + 1]? = some (.cells #[.string y.f0, .int .i64 y.f1] 61) := by rw [hwv]; exact blk_new2 _ _ _
 have C4 : wv.heap[W.heap.size + 1]? = some (.cells #[.string ⟨#[32, 60, 45, 62, 32]⟩, .int .i64 1, .int .i64 1, .int .i64 2] 53) := by rw [hwv]; exact blk_alloc (blk_alloc B4 _) _
 have HB3 : Aside0 (Below w2.heap.size w2 wv) := ⟨by rw [hwv]; exact below_alloc (below_alloc (Below.refl _ _) _) _⟩
 rw [← hwv]
 clear hwv B4
 have hne : W.heap.size + 1 ≠ g := by have := hlt0.out; omega
 have dwv40 : wv.cell? ⟨W.heap.size + 1, 0, none⟩ = some (.string ⟨#[32, 60, 45, 62, 32]⟩) := (blk_cell C4 0).trans rfl
 have dwv41 : wv.cell? ⟨W.heap.size + 1, 1, none⟩ = some (.int .i64 1) := (blk_cell C4 1).trans rfl
 have dwv42 : wv.cell? ⟨W.heap.size + 1, 2, none⟩ = some (.int .i64 1) := (blk_cell C4 2).trans rfl
 have dwv43 : wv.cell? ⟨W.heap.size + 1, 3, none⟩ = some (.int .i64 2) := (blk_cell C4 3).trans rfl
 have dwvp0 : wv.cell? ⟨w2.heap.size, 0, none⟩ = some (.string x.f0) := (blk_cell C5 0).trans rfl
 have dwvq0 : wv.cell? ⟨w2.heap.size, 1, none⟩ = some (.int .i64 x.f1) := (blk_cell C5 1).trans rfl
 have dwvp1 : wv.cell? ⟨w2.heap.size + 1, 0, none⟩ = some (.string y.f0) := (blk_cell C6 0).trans rfl
 have dwvq1 : wv.cell? ⟨w2.heap.size + 1, 1, none⟩ = some (.int .i64 y.f1) := (blk_cell C6 1).trans rfl
 go_region_held3 (fun w' => w'.cell? ⟨W.heap.size + 1, 0, none⟩ = some (.string ⟨#[32, 60, 45, 62, 32]⟩) ∧ w'.cell? ⟨W.heap.size + 1, 1, none⟩ = some (.int .i64 1) ∧ w'.cell? ⟨W.heap.size + 1, 2, none⟩ = some (.int .i64 1) ∧ w'.cell? ⟨W.heap.size + 1, 3, none⟩ = some (.int .i64 2) ∧ w'.cell? ⟨w2.heap.size, 0, none⟩ = some (.string x.f0) ∧ w'.cell? ⟨w2.heap.size, 1, none⟩ = some (.int .i64 x.f1) ∧ w'.cell? ⟨w2.heap.size + 1, 0, none⟩ = some (.string y.f0) ∧ w'.cell? ⟨w2.heap.size + 1, 1, none⟩ = some (.int .i64 y.f1)) (first | exact ⟨by assumption, by assumption, by assumption, by assumption, by assumption, by assumption, by assumption, by assumption⟩ | go_keep) ((first | (go_at_call 39; with_reducible refine (show_piece_within.calls _ _ _ _ _ ha).mono ?_; rintro e wq ⟨rfl, hq⟩; replace C4 := (hq.block _ (blk_lt C4)).trans C4; replace C5 := (hq.block _ (blk_lt C5)).trans C5; replace C6 := (hq.block _ (blk_lt C6)).trans C6; replace HB3 : Aside0 (Below w2.heap.size w2 wq) := ⟨by first | exact below_step HB3.out hq | exact below_step (below_drew1 HB3.out) hq⟩; clear hq; have dwq40 : wq.cell? ⟨W.heap.size + 1, 0, none⟩ = some (.string ⟨#[32, 60, 45, 62, 32]⟩) := (blk_cell C4 0).trans rfl; have dwq41 : wq.cell? ⟨W.heap.size + 1, 1, none⟩ = some (.int .i64 1) := (blk_cell C4 1).trans rfl; have dwq42 : wq.cell? ⟨W.heap.size + 1, 2, none⟩ = some (.int .i64 1) := (blk_cell C4 2).trans rfl; have dwq43 : wq.cell? ⟨W.heap.size + 1, 3, none⟩ = some (.int .i64 2) := (blk_cell C4 3).trans rfl; have dwqp0 : wq.cell? ⟨w2.heap.size, 0, none⟩ = some (.string x.f0) := (blk_cell C5 0).trans rfl; have dwqq0 : wq.cell? ⟨w2.heap.size, 1, none⟩ = some (.int .i64 x.f1) := (blk_cell C5 1).trans rfl; have dwqp1 : wq.cell? ⟨w2.heap.size + 1, 0, none⟩ = some (.string y.f0) := (blk_cell C6 0).trans rfl; have dwqq1 : wq.cell? ⟨w2.heap.size + 1, 1, none⟩ = some (.int .i64 y.f1) := (blk_cell C6 1).trans rfl) | (go_at_call 39; with_reducible refine (show_piece_within.calls _ _ _ _ _ hb).mono ?_; rintro e wq ⟨rfl, hq⟩; replace C4 := (hq.block _ (blk_lt C4)).trans C4; replace C5 := (hq.block _ (blk_lt C5)).trans C5; replace C6 := (hq.block _ (blk_lt C6)).trans C6; replace HB3 : Aside0 (Below w2.heap.size w2 wq) := ⟨by first | exact below_step HB3.out hq | exact below_step (below_drew1 HB3.out) hq⟩; clear hq; have dwq40 : wq.cell? ⟨W.heap.size + 1, 0, none⟩ = some (.string ⟨#[32, 60, 45, 62, 32]⟩) := (blk_cell C4 0).trans rfl; have dwq41 : wq.cell? ⟨W.heap.size + 1, 1, none⟩ = some (.int .i64 1) := (blk_cell C4 1).trans rfl; have dwq42 : wq.cell? ⟨W.heap.size + 1, 2, none⟩ = some (.int .i64 1) := (blk_cell C4 2).trans rfl; have dwq43 : wq.cell? ⟨W.heap.size + 1, 3, none⟩ = some (.int .i64 2) := (blk_cell C4 3).trans rfl; have dwqp0 : wq.cell? ⟨w2.heap.size, 0, none⟩ = some (.string x.f0) := (blk_cell C5 0).trans rfl; have dwqq0 : wq.cell? ⟨w2.heap.size, 1, none⟩ = some (.int .i64 x.f1) := (blk_cell C5 1).trans rfl; have dwqp1 : wq.cell? ⟨w2.heap.size + 1, 0, none⟩ = some (.string y.f0) := (blk_cell C6 0).trans rfl; have dwqq1 : wq.cell? ⟨w2.heap.size + 1, 1, none⟩ = some (.int .i64 y.f1) := (blk_cell C6 1).trans rfl) | (go_at_call 38; refine (put_at w0 g nm nn cn st lg _ _ (by have := HL.out; omega) w2 _ HW2.out HB3.out).mono ?_; rintro e wz ⟨rfl, hwk, hf1, hf2⟩; have HPK := Aside0.mk hwk; replace C4 := hf2 _ _ _ C4 (by decide) hne; replace C5 := hf1 _ _ C5 (Nat.le_refl _); replace C6 := hf1 _ _ C6 (Nat.le_add_right _ _); clear hwk hf1 hf2; have dwz40 : wz.cell? ⟨W.heap.size + 1, 0, none⟩ = some (.string ⟨#[32, 60, 45, 62, 32]⟩) := (blk_cell C4 0).trans rfl; have dwz41 : wz.cell? ⟨W.heap.size + 1, 1, none⟩ = some (.int .i64 1) := (blk_cell C4 1).trans rfl; have dwz42 : wz.cell? ⟨W.heap.size + 1, 2, none⟩ = some (.int .i64 1) := (blk_cell C4 2).trans rfl; have dwz43 : wz.cell? ⟨W.heap.size + 1, 3, none⟩ = some (.int .i64 2) := (blk_cell C4 3).trans rfl; have dwzp0 : wz.cell? ⟨w2.heap.size, 0, none⟩ = some (.string x.f0) := (blk_cell C5 0).trans rfl; have dwzq0 : wz.cell? ⟨w2.heap.size, 1, none⟩ = some (.int .i64 x.f1) := (blk_cell C5 1).trans rfl; have dwzp1 : wz.cell? ⟨w2.heap.size + 1, 0, none⟩ = some (.string y.f0) := (blk_cell C6 0).trans rfl; have dwzq1 : wz.cell? ⟨w2.heap.size + 1, 1, none⟩ = some (.int .i64 y.f1) := (blk_cell C6 1).trans rfl)))
 all_goals go_wp2_with fail
 all_goals go_end0
 all_goals exact ⟨rfl, HPK.out⟩
 done
set_option maxHeartbeats 16000000 in
set_option maxRecDepth 100000 in
theorem tok_15 (w0 : World) (g : Nat) (nm : Option Addr) (nn cn : Nat) (st : List S61) (y x : S61) (lg : Bool) (arg : Int) (hlen : st.length ≤ 900) (tb : ByteArray) (hb : show_piece_within.f y.f0 y.f1 6 = some tb) (sb : tb.size ≤ 4098) (ta : ByteArray) (ha : show_piece_within.f x.f0 x.f1 5 = some ta) (sa : ta.size ≤ 4098) (W : World) (h : WkAt w0 g nm nn cn W ((st ++ [y]) ++ [x]) lg) :
  Calls Tryz.prog 27 #[.pointer (some ⟨g, 0, none⟩), .agg #[.int .u8 15, .int .u8 arg]] W fun e w' => e = .returned (.tuple #[]) ∧ WkAt w0 g nm nn cn w' (putP st ((tb ++ ⟨#[32, 85, 32]⟩) ++ ta) 5) (putLg lg ((tb ++ ⟨#[32, 85, 32]⟩) ++ ta)) := by
 have HWK := Aside0.mk h
 have HL := Aside0.mk hlen
 obtain ⟨vs, hb, hg, hR, hB⟩ := h
 have c0 : W.cell? ⟨g, 61, none⟩ = some (.string ⟨#[32, 85, 32]⟩) := (blk_cell hb 61).trans rfl
 have c1 : W.cell? ⟨g, 62, none⟩ = some (.int .i64 5) := (blk_cell hb 62).trans rfl
 have c2 : W.cell? ⟨g, 63, none⟩ = some (.int .i64 6) := (blk_cell hb 63).trans rfl
 have c3 : W.cell? ⟨g, 64, none⟩ = some (.int .i64 5) := (blk_cell hb 64).trans rfl
 have hlt := blk_lt hb
 have z0 : (9223372036854775807 < tb.size + 3) = False := eq_false (by omega)
 have zd0 : decide (9223372036854775807 < tb.size + 3) = false := decide_eq_false (by omega)
 have z1 : (9223372036854775807 < tb.size + 3 + ta.size) = False := eq_false (by omega)
 have zd1 : decide (9223372036854775807 < tb.size + 3 + ta.size) = false := decide_eq_false (by omega)
 clear hg hR hB hb hlen
 go_enter Tryz.func27, Tryz.ntmps27
 have hlt0 := Aside0.mk hlt
 go_wp2_with fail
 go_region
 go_wp2_with (first | (go_at_call 28; (refine (take_at w0 g nm nn cn (st ++ [y]) x lg (by have := HL.out; first | omega | (simp only [List.length_append, List.length_cons, List.length_nil]; omega)) W _ HWK.out (by first | exact Below.refl _ _ | (with_reducible repeat (first | exact Below.refl _ _ | apply pw_below_drewN | apply below_drew1 | apply below_alloc)))).mono ?_; rintro e w1 ⟨rfl, hwk, hfr⟩; have HW1 := Aside0.mk hwk; have B4 : w1.heap[W.heap.size + 1]? = some (.cells #[.string ⟨#[32, 85, 32]⟩, .int .i64 5, .int .i64 6, .int .i64 5] 53) := hfr _ _ (blk_drew (blk_new2 W _ _)) (by have := hlt0.out; omega); clear hwk hfr HWK)) | (go_at_call 28; (refine (take_at w0 g nm nn cn st y lg (by have := HL.out; first | omega | (simp only [List.length_append, List.length_cons, List.length_nil]; omega)) w1 _ HW1.out (by first | exact Below.refl _ _ | (with_reducible repeat (first | exact Below.refl _ _ | apply pw_below_drewN | apply below_drew1 | apply below_alloc)))).mono ?_; rintro e w2 ⟨rfl, hwk, hfr⟩; have HW2 := Aside0.mk hwk; have B4 : w2.heap[W.heap.size + 1]? = some (.cells #[.string ⟨#[32, 85, 32]⟩, .int .i64 5, .int .i64 6, .int .i64 5] 53) := hfr _ _ (B4) (by have := hlt0.out; omega); clear hwk hfr HW1)))
 obtain ⟨wv, hwv⟩ : ∃ wv, wv = (w2.alloc (.cells #[.string x.f0, .int .i64 x.f1] 61)).alloc (.cells #[.string y.f0, .int .i64 y.f1] 61) := ⟨_, rfl⟩
 have C5 : wv.heap[w2.heap.size]? = some (.cells #[.string x.f0, .int .i64 x.f1] 61) := by rw [hwv]; exact blk_alloc (blk_new _ _) _
 have C6 : wv.heap[w2.heap.size + 1]? = some (.cells #[.string y.f0, .int .i64 y.f1] 61) := by rw [hwv]; exact blk_new2 _ _ _
 have C4 : wv.heap[W.heap.size + 1]? = some (.cells #[.string ⟨#[32, 85, 32]⟩, .int .i64 5, .int .i64 6, .int .i64 5] 53) := by rw [hwv]; exact blk_alloc (blk_alloc B4 _) _
 have HB3 : Aside0 (Below w2.heap.size w2 wv) := ⟨by rw [hwv]; exact below_alloc (below_alloc (Below.refl _ _) _) _⟩
 rw [← hwv]
 clear hwv B4
 have hne : W.heap.size + 1 ≠ g := by have := hlt0.out; omega
 have dwv40 : wv.cell? ⟨W.heap.size + 1, 0, none⟩ = some (.string ⟨#[32, 85, 32]⟩) := (blk_cell C4 0).trans rfl
 have dwv41 : wv.cell? ⟨W.heap.size + 1, 1, none⟩ = some (.int .i64 5) := (blk_cell C4 1).trans rfl
 have dwv42 : wv.cell? ⟨W.heap.size + 1, 2, none⟩ = some (.int .i64 6) := (blk_cell C4 2).trans rfl
 have dwv43 : wv.cell? ⟨W.heap.size + 1, 3, none⟩ = some (.int .i64 5) := (blk_cell C4 3).trans rfl
 have dwvp0 : wv.cell? ⟨w2.heap.size, 0, none⟩ = some (.string x.f0) := (blk_cell C5 0).trans rfl
 have dwvq0 : wv.cell? ⟨w2.heap.size, 1, none⟩ = some (.int .i64 x.f1) := (blk_cell C5 1).trans rfl
 have dwvp1 : wv.cell? ⟨w2.heap.size + 1, 0, none⟩ = some (.string y.f0) := (blk_cell C6 0).trans rfl
 have dwvq1 : wv.cell? ⟨w2.heap.size + 1, 1, none⟩ = some (.int .i64 y.f1) := (blk_cell C6 1).trans rfl
 go_region_held3 (fun w' => w'.cell? ⟨W.heap.size + 1, 0, none⟩ = some (.string ⟨#[32, 85, 32]⟩) ∧ w'.cell? ⟨W.heap.size + 1, 1, none⟩ = some (.int .i64 5) ∧ w'.cell? ⟨W.heap.size + 1, 2, none⟩ = some (.int .i64 6) ∧ w'.cell? ⟨W.heap.size + 1, 3, none⟩ = some (.int .i64 5) ∧ w'.cell? ⟨w2.heap.size, 0, none⟩ = some (.string x.f0) ∧ w'.cell? ⟨w2.heap.size, 1, none⟩ = some (.int .i64 x.f1) ∧ w'.cell? ⟨w2.heap.size + 1, 0, none⟩ = some (.string y.f0) ∧ w'.cell? ⟨w2.heap.size + 1, 1, none⟩ = some (.int .i64 y.f1)) (first | exact ⟨by assumption, by assumption, by assumption, by assumption, by assumption, by assumption, by assumption, by assumption⟩ | go_keep) ((first | (go_at_call 39; with_reducible refine (show_piece_within.calls _ _ _ _ _ ha).mono ?_; rintro e wq ⟨rfl, hq⟩; replace C4 := (hq.block _ (blk_lt C4)).trans C4; replace C5 := (hq.block _ (blk_lt C5)).trans C5; replace C6 := (hq.block _ (blk_lt C6)).trans C6; replace HB3 : Aside0 (Below w2.heap.size w2 wq) := ⟨by first | exact below_step HB3.out hq | exact below_step (below_drew1 HB3.out) hq⟩; clear hq; have dwq40 : wq.cell? ⟨W.heap.size + 1, 0, none⟩ = some (.string ⟨#[32, 85, 32]⟩) := (blk_cell C4 0).trans rfl; have dwq41 : wq.cell? ⟨W.heap.size + 1, 1, none⟩ = some (.int .i64 5) := (blk_cell C4 1).trans rfl; have dwq42 : wq.cell? ⟨W.heap.size + 1, 2, none⟩ = some (.int .i64 6) := (blk_cell C4 2).trans rfl; have dwq43 : wq.cell? ⟨W.heap.size + 1, 3, none⟩ = some (.int .i64 5) := (blk_cell C4 3).trans rfl; have dwqp0 : wq.cell? ⟨w2.heap.size, 0, none⟩ = some (.string x.f0) := (blk_cell C5 0).trans rfl; have dwqq0 : wq.cell? ⟨w2.heap.size, 1, none⟩ = some (.int .i64 x.f1) := (blk_cell C5 1).trans rfl; have dwqp1 : wq.cell? ⟨w2.heap.size + 1, 0, none⟩ = some (.string y.f0) := (blk_cell C6 0).trans rfl; have dwqq1 : wq.cell? ⟨w2.heap.size + 1, 1, none⟩ = some (.int .i64 y.f1) := (blk_cell C6 1).trans rfl) | (go_at_call 39; with_reducible refine (show_piece_within.calls _ _ _ _ _ hb).mono ?_; rintro e wq ⟨rfl, hq⟩; replace C4 := (hq.block _ (blk_lt C4)).trans C4; replace C5 := (hq.block _ (blk_lt C5)).trans C5; replace C6 := (hq.block _ (blk_lt C6)).trans C6; replace HB3 : Aside0 (Below w2.heap.size w2 wq) := ⟨by first | exact below_step HB3.out hq | exact below_step (below_drew1 HB3.out) hq⟩; clear hq; have dwq40 : wq.cell? ⟨W.heap.size + 1, 0, none⟩ = some (.string ⟨#[32, 85, 32]⟩) := (blk_cell C4 0).trans rfl; have dwq41 : wq.cell? ⟨W.heap.size + 1, 1, none⟩ = some (.int .i64 5) := (blk_cell C4 1).trans rfl; have dwq42 : wq.cell? ⟨W.heap.size + 1, 2, none⟩ = some (.int .i64 6) := (blk_cell C4 2).trans rfl; have dwq43 : wq.cell? ⟨W.heap.size + 1, 3, none⟩ = some (.int .i64 5) := (blk_cell C4 3).trans rfl; have dwqp0 : wq.cell? ⟨w2.heap.size, 0, none⟩ = some (.string x.f0) := (blk_cell C5 0).trans rfl; have dwqq0 : wq.cell? ⟨w2.heap.size, 1, none⟩ = some (.int .i64 x.f1) := (blk_cell C5 1).trans rfl; have dwqp1 : wq.cell? ⟨w2.heap.size + 1, 0, none⟩ = some (.string y.f0) := (blk_cell C6 0).trans rfl; have dwqq1 : wq.cell? ⟨w2.heap.size + 1, 1, none⟩ = some (.int .i64 y.f1) := (blk_cell C6 1).trans rfl) | (go_at_call 38; refine (put_at w0 g nm nn cn st lg _ _ (by have := HL.out; omega) w2 _ HW2.out HB3.out).mono ?_; rintro e wz ⟨rfl, hwk, hf1, hf2⟩; have HPK := Aside0.mk hwk; replace C4 := hf2 _ _ _ C4 (by decide) hne; replace C5 := hf1 _ _ C5 (Nat.le_refl _); replace C6 := hf1 _ _ C6 (Nat.le_add_right _ _); clear hwk hf1 hf2; have dwz40 : wz.cell? ⟨W.heap.size + 1, 0, none⟩ = some (.string ⟨#[32, 85, 32]⟩) := (blk_cell C4 0).trans rfl; have dwz41 : wz.cell? ⟨W.heap.size + 1, 1, none⟩ = some (.int .i64 5) := (blk_cell C4 1).trans rfl; have dwz42 : wz.cell? ⟨W.heap.size + 1, 2, none⟩ = some (.int .i64 6) := (blk_cell C4 2).trans rfl; have dwz43 : wz.cell? ⟨W.heap.size + 1, 3, none⟩ = some (.int .i64 5) := (blk_cell C4 3).trans rfl; have dwzp0 : wz.cell? ⟨w2.heap.size, 0, none⟩ = some (.string x.f0) := (blk_cell C5 0).trans rfl; have dwzq0 : wz.cell? ⟨w2.heap.size, 1, none⟩ = some (.int .i64 x.f1) := (blk_cell C5 1).trans rfl; have dwzp1 : wz.cell? ⟨w2.heap.size + 1, 0, none⟩ = some (.string y.f0) := (blk_cell C6 0).trans rfl; have dwzq1 : wz.cell? ⟨w2.heap.size + 1, 1, none⟩ = some (.int .i64 y.f1) := (blk_cell C6 1).trans rfl)))
 all_goals go_wp2_with fail
 all_goals go_end0
 all_goals exact ⟨rfl, HPK.out⟩
 done
set_option maxHeartbeats 16000000 in
set_option maxRecDepth 100000 in
theorem tok_16 (w0 : World) (g : Nat) (nm : Option Addr) (nn cn : Nat) (st : List S61) (y x : S61) (lg : Bool) (arg : Int) (hlen : st.length ≤ 900) (tb : ByteArray) (hb : show_piece_within.f y.f0 y.f1 6 = some tb) (sb : tb.size ≤ 4098) (ta : ByteArray) (ha : show_piece_within.f x.f0 x.f1 5 = some ta) (sa : ta.size ≤ 4098) (W : World) (h : WkAt w0 g nm nn cn W ((st ++ [y]) ++ [x]) lg) :
  Calls Tryz.prog 27 #[.pointer (some ⟨g, 0, none⟩), .agg #[.int .u8 16, .int .u8 arg]] W fun e w' => e = .returned (.tuple #[]) ∧ WkAt w0 g nm nn cn w' (putP st ((tb ++ ⟨#[32, 82, 32]⟩) ++ ta) 5) (putLg lg ((tb ++ ⟨#[32, 82, 32]⟩) ++ ta)) := by
 have HWK := Aside0.mk h
 have HL := Aside0.mk hlen
 obtain ⟨vs, hb, hg, hR, hB⟩ := h
 have c0 : W.cell? ⟨g, 65, none⟩ = some (.string ⟨#[32, 82, 32]⟩) := (blk_cell hb 65).trans rfl
 have c1 : W.cell? ⟨g, 66, none⟩ = some (.int .i64 5) := (blk_cell hb 66).trans rfl
 have c2 : W.cell? ⟨g, 67, none⟩ = some (.int .i64 6) := (blk_cell hb 67).trans rfl
 have c3 : W.cell? ⟨g, 68, none⟩ = some (.int .i64 5) := (blk_cell hb 68).trans rfl
 have hlt := blk_lt hb
 have z0 : (9223372036854775807 < tb.size + 3) = False := eq_false (by omega)
 have zd0 : decide (9223372036854775807 < tb.size + 3) = false := decide_eq_false (by omega)
 have z1 : (9223372036854775807 < tb.size + 3 + ta.size) = False := eq_false (by omega)
 have zd1 : decide (9223372036854775807 < tb.size + 3 + ta.size) = false := decide_eq_false (by omega)
 clear hg hR hB hb hlen
 go_enter Tryz.func27, Tryz.ntmps27
 have hlt0 := Aside0.mk hlt
 go_wp2_with fail
 go_region
 go_wp2_with (first | (go_at_call 28; (refine (take_at w0 g nm nn cn (st ++ [y]) x lg (by have := HL.out; first | omega | (simp only [List.length_append, List.length_cons, List.length_nil]; omega)) W _ HWK.out (by first | exact Below.refl _ _ | (with_reducible repeat (first | exact Below.refl _ _ | apply pw_below_drewN | apply below_drew1 | apply below_alloc)))).mono ?_; rintro e w1 ⟨rfl, hwk, hfr⟩; have HW1 := Aside0.mk hwk; have B4 : w1.heap[W.heap.size + 1]? = some (.cells #[.string ⟨#[32, 82, 32]⟩, .int .i64 5, .int .i64 6, .int .i64 5] 53) := hfr _ _ (blk_drew (blk_new2 W _ _)) (by have := hlt0.out; omega); clear hwk hfr HWK)) | (go_at_call 28; (refine (take_at w0 g nm nn cn st y lg (by have := HL.out; first | omega | (simp only [List.length_append, List.length_cons, List.length_nil]; omega)) w1 _ HW1.out (by first | exact Below.refl _ _ | (with_reducible repeat (first | exact Below.refl _ _ | apply pw_below_drewN | apply below_drew1 | apply below_alloc)))).mono ?_; rintro e w2 ⟨rfl, hwk, hfr⟩; have HW2 := Aside0.mk hwk; have B4 : w2.heap[W.heap.size + 1]? = some (.cells #[.string ⟨#[32, 82, 32]⟩, .int .i64 5, .int .i64 6, .int .i64 5] 53) := hfr _ _ (B4) (by have := hlt0.out; omega); clear hwk hfr HW1)))
 obtain ⟨wv, hwv⟩ : ∃ wv, wv = (w2.alloc (.cells #[.string x.f0, .int .i64 x.f1] 61)).alloc (.cells #[.string y.f0, .int .i64 y.f1] 61) := ⟨_, rfl⟩
 have C5 : wv.heap[w2.heap.size]? = some (.cells #[.string x.f0, .int .i64 x.f1] 61) := by rw [hwv]; exact blk_alloc (blk_new _ _) _
 have C6 : wv.heap[w2.heap.size + 1]? = some (.cells #[.string y.f0, .int .i64 y.f1] 61) := by rw [hwv]; exact blk_new2 _ _ _
 have C4 : wv.heap[W.heap.size + 1]? = some (.cells #[.string ⟨#[32, 82, 32]⟩, .int .i64 5, .int .i64 6, .int .i64 5] 53) := by rw [hwv]; exact blk_alloc (blk_alloc B4 _) _
 have HB3 : Aside0 (Below w2.heap.size w2 wv) := ⟨by rw [hwv]; exact below_alloc (below_alloc (Below.refl _ _) _) _⟩
 rw [← hwv]
 clear hwv B4
 have hne : W.heap.size + 1 ≠ g := by have := hlt0.out; omega
 have dwv40 : wv.cell? ⟨W.heap.size + 1, 0, none⟩ = some (.string ⟨#[32, 82, 32]⟩) := (blk_cell C4 0).trans rfl
 have dwv41 : wv.cell? ⟨W.heap.size + 1, 1, none⟩ = some (.int .i64 5) := (blk_cell C4 1).trans rfl
 have dwv42 : wv.cell? ⟨W.heap.size + 1, 2, none⟩ = some (.int .i64 6) := (blk_cell C4 2).trans rfl
 have dwv43 : wv.cell? ⟨W.heap.size + 1, 3, none⟩ = some (.int .i64 5) := (blk_cell C4 3).trans rfl
 have dwvp0 : wv.cell? ⟨w2.heap.size, 0, none⟩ = some (.string x.f0) := (blk_cell C5 0).trans rfl
 have dwvq0 : wv.cell? ⟨w2.heap.size, 1, none⟩ = some (.int .i64 x.f1) := (blk_cell C5 1).trans rfl
 have dwvp1 : wv.cell? ⟨w2.heap.size + 1, 0, none⟩ = some (.string y.f0) := (blk_cell C6 0).trans rfl
 have dwvq1 : wv.cell? ⟨w2.heap.size + 1, 1, none⟩ = some (.int .i64 y.f1) := (blk_cell C6 1).trans rfl
 go_region_held3 (fun w' => w'.cell? ⟨W.heap.size + 1, 0, none⟩ = some (.string ⟨#[32, 82, 32]⟩) ∧ w'.cell? ⟨W.heap.size + 1, 1, none⟩ = some (.int .i64 5) ∧ w'.cell? ⟨W.heap.size + 1, 2, none⟩ = some (.int .i64 6) ∧ w'.cell? ⟨W.heap.size + 1, 3, none⟩ = some (.int .i64 5) ∧ w'.cell? ⟨w2.heap.size, 0, none⟩ = some (.string x.f0) ∧ w'.cell? ⟨w2.heap.size, 1, none⟩ = some (.int .i64 x.f1) ∧ w'.cell? ⟨w2.heap.size + 1, 0, none⟩ = some (.string y.f0) ∧ w'.cell? ⟨w2.heap.size + 1, 1, none⟩ = some (.int .i64 y.f1)) (first | exact ⟨by assumption, by assumption, by assumption, by assumption, by assumption, by assumption, by assumption, by assumption⟩ | go_keep) ((first | (go_at_call 39; with_reducible refine (show_piece_within.calls _ _ _ _ _ ha).mono ?_; rintro e wq ⟨rfl, hq⟩; replace C4 := (hq.block _ (blk_lt C4)).trans C4; replace C5 := (hq.block _ (blk_lt C5)).trans C5; replace C6 := (hq.block _ (blk_lt C6)).trans C6; replace HB3 : Aside0 (Below w2.heap.size w2 wq) := ⟨by first | exact below_step HB3.out hq | exact below_step (below_drew1 HB3.out) hq⟩; clear hq; have dwq40 : wq.cell? ⟨W.heap.size + 1, 0, none⟩ = some (.string ⟨#[32, 82, 32]⟩) := (blk_cell C4 0).trans rfl; have dwq41 : wq.cell? ⟨W.heap.size + 1, 1, none⟩ = some (.int .i64 5) := (blk_cell C4 1).trans rfl; have dwq42 : wq.cell? ⟨W.heap.size + 1, 2, none⟩ = some (.int .i64 6) := (blk_cell C4 2).trans rfl; have dwq43 : wq.cell? ⟨W.heap.size + 1, 3, none⟩ = some (.int .i64 5) := (blk_cell C4 3).trans rfl; have dwqp0 : wq.cell? ⟨w2.heap.size, 0, none⟩ = some (.string x.f0) := (blk_cell C5 0).trans rfl; have dwqq0 : wq.cell? ⟨w2.heap.size, 1, none⟩ = some (.int .i64 x.f1) := (blk_cell C5 1).trans rfl; have dwqp1 : wq.cell? ⟨w2.heap.size + 1, 0, none⟩ = some (.string y.f0) := (blk_cell C6 0).trans rfl; have dwqq1 : wq.cell? ⟨w2.heap.size + 1, 1, none⟩ = some (.int .i64 y.f1) := (blk_cell C6 1).trans rfl) | (go_at_call 39; with_reducible refine (show_piece_within.calls _ _ _ _ _ hb).mono ?_; rintro e wq ⟨rfl, hq⟩; replace C4 := (hq.block _ (blk_lt C4)).trans C4; replace C5 := (hq.block _ (blk_lt C5)).trans C5; replace C6 := (hq.block _ (blk_lt C6)).trans C6; replace HB3 : Aside0 (Below w2.heap.size w2 wq) := ⟨by first | exact below_step HB3.out hq | exact below_step (below_drew1 HB3.out) hq⟩; clear hq; have dwq40 : wq.cell? ⟨W.heap.size + 1, 0, none⟩ = some (.string ⟨#[32, 82, 32]⟩) := (blk_cell C4 0).trans rfl; have dwq41 : wq.cell? ⟨W.heap.size + 1, 1, none⟩ = some (.int .i64 5) := (blk_cell C4 1).trans rfl; have dwq42 : wq.cell? ⟨W.heap.size + 1, 2, none⟩ = some (.int .i64 6) := (blk_cell C4 2).trans rfl; have dwq43 : wq.cell? ⟨W.heap.size + 1, 3, none⟩ = some (.int .i64 5) := (blk_cell C4 3).trans rfl; have dwqp0 : wq.cell? ⟨w2.heap.size, 0, none⟩ = some (.string x.f0) := (blk_cell C5 0).trans rfl; have dwqq0 : wq.cell? ⟨w2.heap.size, 1, none⟩ = some (.int .i64 x.f1) := (blk_cell C5 1).trans rfl; have dwqp1 : wq.cell? ⟨w2.heap.size + 1, 0, none⟩ = some (.string y.f0) := (blk_cell C6 0).trans rfl; have dwqq1 : wq.cell? ⟨w2.heap.size + 1, 1, none⟩ = some (.int .i64 y.f1) := (blk_cell C6 1).trans rfl) | (go_at_call 38; refine (put_at w0 g nm nn cn st lg _ _ (by have := HL.out; omega) w2 _ HW2.out HB3.out).mono ?_; rintro e wz ⟨rfl, hwk, hf1, hf2⟩; have HPK := Aside0.mk hwk; replace C4 := hf2 _ _ _ C4 (by decide) hne; replace C5 := hf1 _ _ C5 (Nat.le_refl _); replace C6 := hf1 _ _ C6 (Nat.le_add_right _ _); clear hwk hf1 hf2; have dwz40 : wz.cell? ⟨W.heap.size + 1, 0, none⟩ = some (.string ⟨#[32, 82, 32]⟩) := (blk_cell C4 0).trans rfl; have dwz41 : wz.cell? ⟨W.heap.size + 1, 1, none⟩ = some (.int .i64 5) := (blk_cell C4 1).trans rfl; have dwz42 : wz.cell? ⟨W.heap.size + 1, 2, none⟩ = some (.int .i64 6) := (blk_cell C4 2).trans rfl; have dwz43 : wz.cell? ⟨W.heap.size + 1, 3, none⟩ = some (.int .i64 5) := (blk_cell C4 3).trans rfl; have dwzp0 : wz.cell? ⟨w2.heap.size, 0, none⟩ = some (.string x.f0) := (blk_cell C5 0).trans rfl; have dwzq0 : wz.cell? ⟨w2.heap.size, 1, none⟩ = some (.int .i64 x.f1) := (blk_cell C5 1).trans rfl; have dwzp1 : wz.cell? ⟨w2.heap.size + 1, 0, none⟩ = some (.string y.f0) := (blk_cell C6 0).trans rfl; have dwzq1 : wz.cell? ⟨w2.heap.size + 1, 1, none⟩ = some (.int .i64 y.f1) := (blk_cell C6 1).trans rfl)))
 all_goals go_wp2_with fail
 all_goals go_end0
 all_goals exact ⟨rfl, HPK.out⟩
 done
set_option maxHeartbeats 16000000 in
set_option maxRecDepth 100000 in
theorem tok_21 (w0 : World) (g : Nat) (nm : Option Addr) (nn cn : Nat) (st : List S61) (y x : S61) (lg : Bool) (arg : Int) (hlen : st.length ≤ 900) (tb : ByteArray) (hb : show_piece_within.f y.f0 y.f1 1 = some tb) (sb : tb.size ≤ 4098) (ta : ByteArray) (ha : show_piece_within.f x.f0 x.f1 2 = some ta) (sa : ta.size ≤ 4098) (W : World) (h : WkAt w0 g nm nn cn W ((st ++ [y]) ++ [x]) lg) :
  Calls Tryz.prog 27 #[.pointer (some ⟨g, 0, none⟩), .agg #[.int .u8 21, .int .u8 arg]] W fun e w' => e = .returned (.tuple #[]) ∧ WkAt w0 g nm nn cn w' (putP st ((tb ++ ⟨#[32, 43, 32]⟩) ++ ta) 1) (putLg lg ((tb ++ ⟨#[32, 43, 32]⟩) ++ ta)) := by
 have HWK := Aside0.mk h
 have HL := Aside0.mk hlen
 obtain ⟨vs, hb, hg, hR, hB⟩ := h
 have c0 : W.cell? ⟨g, 85, none⟩ = some (.string ⟨#[32, 43, 32]⟩) := (blk_cell hb 85).trans rfl
 have c1 : W.cell? ⟨g, 86, none⟩ = some (.int .i64 1) := (blk_cell hb 86).trans rfl
 have c2 : W.cell? ⟨g, 87, none⟩ = some (.int .i64 1) := (blk_cell hb 87).trans rfl
 have c3 : W.cell? ⟨g, 88, none⟩ = some (.int .i64 2) := (blk_cell hb 88).trans rfl
 have hlt := blk_lt hb
 have z0 : (9223372036854775807 < tb.size + 3) = False := eq_false (by omega)
 have zd0 : decide (9223372036854775807 < tb.size + 3) = false := decide_eq_false (by omega)
 have z1 : (9223372036854775807 < tb.size + 3 + ta.size) = False := eq_false (by omega)
 have zd1 : decide (9223372036854775807 < tb.size + 3 + ta.size) = false := decide_eq_false (by omega)
 clear hg hR hB hb hlen
 go_enter Tryz.func27, Tryz.ntmps27
 have hlt0 := Aside0.mk hlt
 go_wp2_with fail
 go_region
 go_wp2_with (first | (go_at_call 28; (refine (take_at w0 g nm nn cn (st ++ [y]) x lg (by have := HL.out; first | omega | (simp only [List.length_append, List.length_cons, List.length_nil]; omega)) W _ HWK.out (by first | exact Below.refl _ _ | (with_reducible repeat (first | exact Below.refl _ _ | apply pw_below_drewN | apply below_drew1 | apply below_alloc)))).mono ?_; rintro e w1 ⟨rfl, hwk, hfr⟩; have HW1 := Aside0.mk hwk; have B4 : w1.heap[W.heap.size + 1]? = some (.cells #[.string ⟨#[32, 43, 32]⟩, .int .i64 1, .int .i64 1, .int .i64 2] 53) := hfr _ _ (blk_drew (blk_new2 W _ _)) (by have := hlt0.out; omega); clear hwk hfr HWK)) | (go_at_call 28; (refine (take_at w0 g nm nn cn st y lg (by have := HL.out; first | omega | (simp only [List.length_append, List.length_cons, List.length_nil]; omega)) w1 _ HW1.out (by first | exact Below.refl _ _ | (with_reducible repeat (first | exact Below.refl _ _ | apply pw_below_drewN | apply below_drew1 | apply below_alloc)))).mono ?_; rintro e w2 ⟨rfl, hwk, hfr⟩; have HW2 := Aside0.mk hwk; have B4 : w2.heap[W.heap.size + 1]? = some (.cells #[.string ⟨#[32, 43, 32]⟩, .int .i64 1, .int .i64 1, .int .i64 2] 53) := hfr _ _ (B4) (by have := hlt0.out; omega); clear hwk hfr HW1)))
 obtain ⟨wv, hwv⟩ : ∃ wv, wv = (w2.alloc (.cells #[.string x.f0, .int .i64 x.f1] 61)).alloc (.cells #[.string y.f0, .int .i64 y.f1] 61) := ⟨_, rfl⟩
 have C5 : wv.heap[w2.heap.size]? = some (.cells #[.string x.f0, .int .i64 x.f1] 61) := by rw [hwv]; exact blk_alloc (blk_new _ _) _
 have C6 : wv.heap[w2.heap.size + 1]? = some (.cells #[.string y.f0, .int .i64 y.f1] 61) := by rw [hwv]; exact blk_new2 _ _ _
 have C4 : wv.heap[W.heap.size + 1]? = some (.cells #[.string ⟨#[32, 43, 32]⟩, .int .i64 1, .int .i64 1, .int .i64 2] 53) := by rw [hwv]; exact blk_alloc (blk_alloc B4 _) _
 have HB3 : Aside0 (Below w2.heap.size w2 wv) := ⟨by rw [hwv]; exact below_alloc (below_alloc (Below.refl _ _) _) _⟩
 rw [← hwv]
 clear hwv B4
 have hne : W.heap.size + 1 ≠ g := by have := hlt0.out; omega
 have dwv40 : wv.cell? ⟨W.heap.size + 1, 0, none⟩ = some (.string ⟨#[32, 43, 32]⟩) := (blk_cell C4 0).trans rfl
 have dwv41 : wv.cell? ⟨W.heap.size + 1, 1, none⟩ = some (.int .i64 1) := (blk_cell C4 1).trans rfl
 have dwv42 : wv.cell? ⟨W.heap.size + 1, 2, none⟩ = some (.int .i64 1) := (blk_cell C4 2).trans rfl
 have dwv43 : wv.cell? ⟨W.heap.size + 1, 3, none⟩ = some (.int .i64 2) := (blk_cell C4 3).trans rfl
 have dwvp0 : wv.cell? ⟨w2.heap.size, 0, none⟩ = some (.string x.f0) := (blk_cell C5 0).trans rfl
 have dwvq0 : wv.cell? ⟨w2.heap.size, 1, none⟩ = some (.int .i64 x.f1) := (blk_cell C5 1).trans rfl
 have dwvp1 : wv.cell? ⟨w2.heap.size + 1, 0, none⟩ = some (.string y.f0) := (blk_cell C6 0).trans rfl
 have dwvq1 : wv.cell? ⟨w2.heap.size + 1, 1, none⟩ = some (.int .i64 y.f1) := (blk_cell C6 1).trans rfl
 go_region_held3 (fun w' => w'.cell? ⟨W.heap.size + 1, 0, none⟩ = some (.string ⟨#[32, 43, 32]⟩) ∧ w'.cell? ⟨W.heap.size + 1, 1, none⟩ = some (.int .i64 1) ∧ w'.cell? ⟨W.heap.size + 1, 2, none⟩ = some (.int .i64 1) ∧ w'.cell? ⟨W.heap.size + 1, 3, none⟩ = some (.int .i64 2) ∧ w'.cell? ⟨w2.heap.size, 0, none⟩ = some (.string x.f0) ∧ w'.cell? ⟨w2.heap.size, 1, none⟩ = some (.int .i64 x.f1) ∧ w'.cell? ⟨w2.heap.size + 1, 0, none⟩ = some (.string y.f0) ∧ w'.cell? ⟨w2.heap.size + 1, 1, none⟩ = some (.int .i64 y.f1)) (first | exact ⟨by assumption, by assumption, by assumption, by assumption, by assumption, by assumption, by assumption, by assumption⟩ | go_keep) ((first | (go_at_call 39; with_reducible refine (show_piece_within.calls _ _ _ _ _ ha).mono ?_; rintro e wq ⟨rfl, hq⟩; replace C4 := (hq.block _ (blk_lt C4)).trans C4; replace C5 := (hq.block _ (blk_lt C5)).trans C5; replace C6 := (hq.block _ (blk_lt C6)).trans C6; replace HB3 : Aside0 (Below w2.heap.size w2 wq) := ⟨by first | exact below_step HB3.out hq | exact below_step (below_drew1 HB3.out) hq⟩; clear hq; have dwq40 : wq.cell? ⟨W.heap.size + 1, 0, none⟩ = some (.string ⟨#[32, 43, 32]⟩) := (blk_cell C4 0).trans rfl; have dwq41 : wq.cell? ⟨W.heap.size + 1, 1, none⟩ = some (.int .i64 1) := (blk_cell C4 1).trans rfl; have dwq42 : wq.cell? ⟨W.heap.size + 1, 2, none⟩ = some (.int .i64 1) := (blk_cell C4 2).trans rfl; have dwq43 : wq.cell? ⟨W.heap.size + 1, 3, none⟩ = some (.int .i64 2) := (blk_cell C4 3).trans rfl; have dwqp0 : wq.cell? ⟨w2.heap.size, 0, none⟩ = some (.string x.f0) := (blk_cell C5 0).trans rfl; have dwqq0 : wq.cell? ⟨w2.heap.size, 1, none⟩ = some (.int .i64 x.f1) := (blk_cell C5 1).trans rfl; have dwqp1 : wq.cell? ⟨w2.heap.size + 1, 0, none⟩ = some (.string y.f0) := (blk_cell C6 0).trans rfl; have dwqq1 : wq.cell? ⟨w2.heap.size + 1, 1, none⟩ = some (.int .i64 y.f1) := (blk_cell C6 1).trans rfl) | (go_at_call 39; with_reducible refine (show_piece_within.calls _ _ _ _ _ hb).mono ?_; rintro e wq ⟨rfl, hq⟩; replace C4 := (hq.block _ (blk_lt C4)).trans C4; replace C5 := (hq.block _ (blk_lt C5)).trans C5; replace C6 := (hq.block _ (blk_lt C6)).trans C6; replace HB3 : Aside0 (Below w2.heap.size w2 wq) := ⟨by first | exact below_step HB3.out hq | exact below_step (below_drew1 HB3.out) hq⟩; clear hq; have dwq40 : wq.cell? ⟨W.heap.size + 1, 0, none⟩ = some (.string ⟨#[32, 43, 32]⟩) := (blk_cell C4 0).trans rfl; have dwq41 : wq.cell? ⟨W.heap.size + 1, 1, none⟩ = some (.int .i64 1) := (blk_cell C4 1).trans rfl; have dwq42 : wq.cell? ⟨W.heap.size + 1, 2, none⟩ = some (.int .i64 1) := (blk_cell C4 2).trans rfl; have dwq43 : wq.cell? ⟨W.heap.size + 1, 3, none⟩ = some (.int .i64 2) := (blk_cell C4 3).trans rfl; have dwqp0 : wq.cell? ⟨w2.heap.size, 0, none⟩ = some (.string x.f0) := (blk_cell C5 0).trans rfl; have dwqq0 : wq.cell? ⟨w2.heap.size, 1, none⟩ = some (.int .i64 x.f1) := (blk_cell C5 1).trans rfl; have dwqp1 : wq.cell? ⟨w2.heap.size + 1, 0, none⟩ = some (.string y.f0) := (blk_cell C6 0).trans rfl; have dwqq1 : wq.cell? ⟨w2.heap.size + 1, 1, none⟩ = some (.int .i64 y.f1) := (blk_cell C6 1).trans rfl) | (go_at_call 38; refine (put_at w0 g nm nn cn st lg _ _ (by have := HL.out; omega) w2 _ HW2.out HB3.out).mono ?_; rintro e wz ⟨rfl, hwk, hf1, hf2⟩; have HPK := Aside0.mk hwk; replace C4 := hf2 _ _ _ C4 (by decide) hne; replace C5 := hf1 _ _ C5 (Nat.le_refl _); replace C6 := hf1 _ _ C6 (Nat.le_add_right _ _); clear hwk hf1 hf2; have dwz40 : wz.cell? ⟨W.heap.size + 1, 0, none⟩ = some (.string ⟨#[32, 43, 32]⟩) := (blk_cell C4 0).trans rfl; have dwz41 : wz.cell? ⟨W.heap.size + 1, 1, none⟩ = some (.int .i64 1) := (blk_cell C4 1).trans rfl; have dwz42 : wz.cell? ⟨W.heap.size + 1, 2, none⟩ = some (.int .i64 1) := (blk_cell C4 2).trans rfl; have dwz43 : wz.cell? ⟨W.heap.size + 1, 3, none⟩ = some (.int .i64 2) := (blk_cell C4 3).trans rfl; have dwzp0 : wz.cell? ⟨w2.heap.size, 0, none⟩ = some (.string x.f0) := (blk_cell C5 0).trans rfl; have dwzq0 : wz.cell? ⟨w2.heap.size, 1, none⟩ = some (.int .i64 x.f1) := (blk_cell C5 1).trans rfl; have dwzp1 : wz.cell? ⟨w2.heap.size + 1, 0, none⟩ = some (.string y.f0) := (blk_cell C6 0).trans rfl; have dwzq1 : wz.cell? ⟨w2.heap.size + 1, 1, none⟩ = some (.int .i64 y.f1) := (blk_cell C6 1).trans rfl)))
 all_goals go_wp2_with fail
 all_goals go_end0
 all_goals exact ⟨rfl, HPK.out⟩
 done
set_option maxHeartbeats 16000000 in
set_option maxRecDepth 100000 in
theorem tok_22 (w0 : World) (g : Nat) (nm : Option Addr) (nn cn : Nat) (st : List S61) (y x : S61) (lg : Bool) (arg : Int) (hlen : st.length ≤ 900) (tb : ByteArray) (hb : show_piece_within.f y.f0 y.f1 2 = some tb) (sb : tb.size ≤ 4098) (ta : ByteArray) (ha : show_piece_within.f x.f0 x.f1 3 = some ta) (sa : ta.size ≤ 4098) (W : World) (h : WkAt w0 g nm nn cn W ((st ++ [y]) ++ [x]) lg) :
  Calls Tryz.prog 27 #[.pointer (some ⟨g, 0, none⟩), .agg #[.int .u8 22, .int .u8 arg]] W fun e w' => e = .returned (.tuple #[]) ∧ WkAt w0 g nm nn cn w' (putP st ((tb ++ ⟨#[32, 59, 32]⟩) ++ ta) 2) (putLg lg ((tb ++ ⟨#[32, 59, 32]⟩) ++ ta)) := by
 have HWK := Aside0.mk h
 have HL := Aside0.mk hlen
 obtain ⟨vs, hb, hg, hR, hB⟩ := h
 have c0 : W.cell? ⟨g, 89, none⟩ = some (.string ⟨#[32, 59, 32]⟩) := (blk_cell hb 89).trans rfl
 have c1 : W.cell? ⟨g, 90, none⟩ = some (.int .i64 2) := (blk_cell hb 90).trans rfl
 have c2 : W.cell? ⟨g, 91, none⟩ = some (.int .i64 2) := (blk_cell hb 91).trans rfl
 have c3 : W.cell? ⟨g, 92, none⟩ = some (.int .i64 3) := (blk_cell hb 92).trans rfl
 have hlt := blk_lt hb
 have z0 : (9223372036854775807 < tb.size + 3) = False := eq_false (by omega)
 have zd0 : decide (9223372036854775807 < tb.size + 3) = false := decide_eq_false (by omega)
 have z1 : (9223372036854775807 < tb.size + 3 + ta.size) = False := eq_false (by omega)
 have zd1 : decide (9223372036854775807 < tb.size + 3 + ta.size) = false := decide_eq_false (by omega)
 clear hg hR hB hb hlen
 go_enter Tryz.func27, Tryz.ntmps27
 have hlt0 := Aside0.mk hlt
 go_wp2_with fail
 go_region
 go_wp2_with (first | (go_at_call 28; (refine (take_at w0 g nm nn cn (st ++ [y]) x lg (by have := HL.out; first | omega | (simp only [List.length_append, List.length_cons, List.length_nil]; omega)) W _ HWK.out (by first | exact Below.refl _ _ | (with_reducible repeat (first | exact Below.refl _ _ | apply pw_below_drewN | apply below_drew1 | apply below_alloc)))).mono ?_; rintro e w1 ⟨rfl, hwk, hfr⟩; have HW1 := Aside0.mk hwk; have B4 : w1.heap[W.heap.size + 1]? = some (.cells #[.string ⟨#[32, 59, 32]⟩, .int .i64 2, .int .i64 2, .int .i64 3] 53) := hfr _ _ (blk_drew (blk_new2 W _ _)) (by have := hlt0.out; omega); clear hwk hfr HWK)) | (go_at_call 28; (refine (take_at w0 g nm nn cn st y lg (by have := HL.out; first | omega | (simp only [List.length_append, List.length_cons, List.length_nil]; omega)) w1 _ HW1.out (by first | exact Below.refl _ _ | (with_reducible repeat (first | exact Below.refl _ _ | apply pw_below_drewN | apply below_drew1 | apply below_alloc)))).mono ?_; rintro e w2 ⟨rfl, hwk, hfr⟩; have HW2 := Aside0.mk hwk; have B4 : w2.heap[W.heap.size + 1]? = some (.cells #[.string ⟨#[32, 59, 32]⟩, .int .i64 2, .int .i64 2, .int .i64 3] 53) := hfr _ _ (B4) (by have := hlt0.out; omega); clear hwk hfr HW1)))
 obtain ⟨wv, hwv⟩ : ∃ wv, wv = (w2.alloc (.cells #[.string x.f0, .int .i64 x.f1] 61)).alloc (.cells #[.string y.f0, .int .i64 y.f1] 61) := ⟨_, rfl⟩
 have C5 : wv.heap[w2.heap.size]? = some (.cells #[.string x.f0, .int .i64 x.f1] 61) := by rw [hwv]; exact blk_alloc (blk_new _ _) _
 have C6 : wv.heap[w2.heap.size + 1]? = some (.cells #[.string y.f0, .int .i64 y.f1] 61) := by rw [hwv]; exact blk_new2 _ _ _
 have C4 : wv.heap[W.heap.size + 1]? = some (.cells #[.string ⟨#[32, 59, 32]⟩, .int .i64 2, .int .i64 2, .int .i64 3] 53) := by rw [hwv]; exact blk_alloc (blk_alloc B4 _) _
 have HB3 : Aside0 (Below w2.heap.size w2 wv) := ⟨by rw [hwv]; exact below_alloc (below_alloc (Below.refl _ _) _) _⟩
 rw [← hwv]
 clear hwv B4
 have hne : W.heap.size + 1 ≠ g := by have := hlt0.out; omega
 have dwv40 : wv.cell? ⟨W.heap.size + 1, 0, none⟩ = some (.string ⟨#[32, 59, 32]⟩) := (blk_cell C4 0).trans rfl
 have dwv41 : wv.cell? ⟨W.heap.size + 1, 1, none⟩ = some (.int .i64 2) := (blk_cell C4 1).trans rfl
 have dwv42 : wv.cell? ⟨W.heap.size + 1, 2, none⟩ = some (.int .i64 2) := (blk_cell C4 2).trans rfl
 have dwv43 : wv.cell? ⟨W.heap.size + 1, 3, none⟩ = some (.int .i64 3) := (blk_cell C4 3).trans rfl
 have dwvp0 : wv.cell? ⟨w2.heap.size, 0, none⟩ = some (.string x.f0) := (blk_cell C5 0).trans rfl
 have dwvq0 : wv.cell? ⟨w2.heap.size, 1, none⟩ = some (.int .i64 x.f1) := (blk_cell C5 1).trans rfl
 have dwvp1 : wv.cell? ⟨w2.heap.size + 1, 0, none⟩ = some (.string y.f0) := (blk_cell C6 0).trans rfl
 have dwvq1 : wv.cell? ⟨w2.heap.size + 1, 1, none⟩ = some (.int .i64 y.f1) := (blk_cell C6 1).trans rfl
 go_region_held3 (fun w' => w'.cell? ⟨W.heap.size + 1, 0, none⟩ = some (.string ⟨#[32, 59, 32]⟩) ∧ w'.cell? ⟨W.heap.size + 1, 1, none⟩ = some (.int .i64 2) ∧ w'.cell? ⟨W.heap.size + 1, 2, none⟩ = some (.int .i64 2) ∧ w'.cell? ⟨W.heap.size + 1, 3, none⟩ = some (.int .i64 3) ∧ w'.cell? ⟨w2.heap.size, 0, none⟩ = some (.string x.f0) ∧ w'.cell? ⟨w2.heap.size, 1, none⟩ = some (.int .i64 x.f1) ∧ w'.cell? ⟨w2.heap.size + 1, 0, none⟩ = some (.string y.f0) ∧ w'.cell? ⟨w2.heap.size + 1, 1, none⟩ = some (.int .i64 y.f1)) (first | exact ⟨by assumption, by assumption, by assumption, by assumption, by assumption, by assumption, by assumption, by assumption⟩ | go_keep) ((first | (go_at_call 39; with_reducible refine (show_piece_within.calls _ _ _ _ _ ha).mono ?_; rintro e wq ⟨rfl, hq⟩; replace C4 := (hq.block _ (blk_lt C4)).trans C4; replace C5 := (hq.block _ (blk_lt C5)).trans C5; replace C6 := (hq.block _ (blk_lt C6)).trans C6; replace HB3 : Aside0 (Below w2.heap.size w2 wq) := ⟨by first | exact below_step HB3.out hq | exact below_step (below_drew1 HB3.out) hq⟩; clear hq; have dwq40 : wq.cell? ⟨W.heap.size + 1, 0, none⟩ = some (.string ⟨#[32, 59, 32]⟩) := (blk_cell C4 0).trans rfl; have dwq41 : wq.cell? ⟨W.heap.size + 1, 1, none⟩ = some (.int .i64 2) := (blk_cell C4 1).trans rfl; have dwq42 : wq.cell? ⟨W.heap.size + 1, 2, none⟩ = some (.int .i64 2) := (blk_cell C4 2).trans rfl; have dwq43 : wq.cell? ⟨W.heap.size + 1, 3, none⟩ = some (.int .i64 3) := (blk_cell C4 3).trans rfl; have dwqp0 : wq.cell? ⟨w2.heap.size, 0, none⟩ = some (.string x.f0) := (blk_cell C5 0).trans rfl; have dwqq0 : wq.cell? ⟨w2.heap.size, 1, none⟩ = some (.int .i64 x.f1) := (blk_cell C5 1).trans rfl; have dwqp1 : wq.cell? ⟨w2.heap.size + 1, 0, none⟩ = some (.string y.f0) := (blk_cell C6 0).trans rfl; have dwqq1 : wq.cell? ⟨w2.heap.size + 1, 1, none⟩ = some (.int .i64 y.f1) := (blk_cell C6 1).trans rfl) | (go_at_call 39; with_reducible refine (show_piece_within.calls _ _ _ _ _ hb).mono ?_; rintro e wq ⟨rfl, hq⟩; replace C4 := (hq.block _ (blk_lt C4)).trans C4; replace C5 := (hq.block _ (blk_lt C5)).trans C5; replace C6 := (hq.block _ (blk_lt C6)).trans C6; replace HB3 : Aside0 (Below w2.heap.size w2 wq) := ⟨by first | exact below_step HB3.out hq | exact below_step (below_drew1 HB3.out) hq⟩; clear hq; have dwq40 : wq.cell? ⟨W.heap.size + 1, 0, none⟩ = some (.string ⟨#[32, 59, 32]⟩) := (blk_cell C4 0).trans rfl; have dwq41 : wq.cell? ⟨W.heap.size + 1, 1, none⟩ = some (.int .i64 2) := (blk_cell C4 1).trans rfl; have dwq42 : wq.cell? ⟨W.heap.size + 1, 2, none⟩ = some (.int .i64 2) := (blk_cell C4 2).trans rfl; have dwq43 : wq.cell? ⟨W.heap.size + 1, 3, none⟩ = some (.int .i64 3) := (blk_cell C4 3).trans rfl; have dwqp0 : wq.cell? ⟨w2.heap.size, 0, none⟩ = some (.string x.f0) := (blk_cell C5 0).trans rfl; have dwqq0 : wq.cell? ⟨w2.heap.size, 1, none⟩ = some (.int .i64 x.f1) := (blk_cell C5 1).trans rfl; have dwqp1 : wq.cell? ⟨w2.heap.size + 1, 0, none⟩ = some (.string y.f0) := (blk_cell C6 0).trans rfl; have dwqq1 : wq.cell? ⟨w2.heap.size + 1, 1, none⟩ = some (.int .i64 y.f1) := (blk_cell C6 1).trans rfl) | (go_at_call 38; refine (put_at w0 g nm nn cn st lg _ _ (by have := HL.out; omega) w2 _ HW2.out HB3.out).mono ?_; rintro e wz ⟨rfl, hwk, hf1, hf2⟩; have HPK := Aside0.mk hwk; replace C4 := hf2 _ _ _ C4 (by decide) hne; replace C5 := hf1 _ _ C5 (Nat.le_refl _); replace C6 := hf1 _ _ C6 (Nat.le_add_right _ _); clear hwk hf1 hf2; have dwz40 : wz.cell? ⟨W.heap.size + 1, 0, none⟩ = some (.string ⟨#[32, 59, 32]⟩) := (blk_cell C4 0).trans rfl; have dwz41 : wz.cell? ⟨W.heap.size + 1, 1, none⟩ = some (.int .i64 2) := (blk_cell C4 1).trans rfl; have dwz42 : wz.cell? ⟨W.heap.size + 1, 2, none⟩ = some (.int .i64 2) := (blk_cell C4 2).trans rfl; have dwz43 : wz.cell? ⟨W.heap.size + 1, 3, none⟩ = some (.int .i64 3) := (blk_cell C4 3).trans rfl; have dwzp0 : wz.cell? ⟨w2.heap.size, 0, none⟩ = some (.string x.f0) := (blk_cell C5 0).trans rfl; have dwzq0 : wz.cell? ⟨w2.heap.size, 1, none⟩ = some (.int .i64 x.f1) := (blk_cell C5 1).trans rfl; have dwzp1 : wz.cell? ⟨w2.heap.size + 1, 0, none⟩ = some (.string y.f0) := (blk_cell C6 0).trans rfl; have dwzq1 : wz.cell? ⟨w2.heap.size + 1, 1, none⟩ = some (.int .i64 y.f1) := (blk_cell C6 1).trans rfl)))
 all_goals go_wp2_with fail
 all_goals go_end0
 all_goals exact ⟨rfl, HPK.out⟩
 done
def lookAt (o : Int) : Look := lookL.getD o.toNat ⟨⟨#[]⟩, 0, 0, 0⟩
/-- The stack, its top first, and whether a text was too long: a text is put. -/
def putS (st : List S61) (lg : Bool) (s : ByteArray) (k : Int) : List S61 × Bool := (⟨if s.size > 4096 then ⟨#[]⟩ else s, k⟩ :: st, if s.size > 4096 then true else lg)
def leafO (o : Int) : Bool := o == 0 || o == 1 || o == 3
def unO (o : Int) : Bool := o == 6 || o == 7 || o == 8 || o == 9 || o == 10 || o == 20
def binO (o : Int) : Bool := o == 11 || o == 12 || o == 13 || o == 14 || o == 15 || o == 16 || o == 21 || o == 22
/-- What one token does. -/
def stepS (names : List ByteArray) (st : List S61) (lg : Bool) (t : Tk) : Option (List S61 × Bool) :=
 if t.f0 = 2 then some (putS st lg (names.getD t.f1.toNat ⟨#[]⟩) 7)
 else if leafO t.f0 then some (putS st lg (lookAt t.f0).text (lookAt t.f0).strong)
 else if unO t.f0 then (match st with | x :: s => some (putS s lg ((lookAt t.f0).text ++ withinP x (lookAt t.f0).left) (lookAt t.f0).strong) | [] => none)
 else if t.f0 = 19 then (match st with | x :: s => some (putS s lg ((⟨#[123]⟩ ++ x.f0) ++ (lookAt t.f0).text) (lookAt t.f0).strong) | [] => none)
 else if t.f0 = 23 then (match st with | x :: s => some (putS s lg (withinP x (lookAt t.f0).left ++ (lookAt t.f0).text) (lookAt t.f0).strong) | [] => none)
 else if t.f0 = 17 then (match st with | x :: y :: s => some (putS s lg (((⟨#[60]⟩ ++ y.f0) ++ (lookAt t.f0).text) ++ withinP x (lookAt t.f0).right) (lookAt t.f0).strong) | _ => none)
 else if t.f0 = 18 then (match st with | x :: y :: s => some (putS s lg (((⟨#[91]⟩ ++ y.f0) ++ (lookAt t.f0).text) ++ withinP x (lookAt t.f0).right) (lookAt t.f0).strong) | _ => none)
 else if binO t.f0 then (match st with | x :: y :: s => some (putS s lg ((withinP y (lookAt t.f0).left ++ (lookAt t.f0).text) ++ withinP x (lookAt t.f0).right) (lookAt t.f0).strong) | _ => none)
 else none
def runS (names : List ByteArray) : List S61 → Bool → List Tk → Option (List S61 × Bool)
 | st, lg, [] => some (st, lg)
 | st, lg, t :: ts => (match stepS names st lg t with | some q => runS names q.1 q.2 ts | none => none)
def SmallS (st : List S61) : Prop := ∀ p ∈ st, p.f0.size ≤ 4096
theorem within_f (x : S61) (n : Int) (h : x.f0.size ≤ 4096) : show_piece_within.f x.f0 x.f1 n = some (withinP x n) := by
 unfold show_piece_within.f withinP
 by_cases c : x.f1 < n
 ·rw [if_pos c, if_pos c]
  have h1 : (⟨#[40]⟩ : ByteArray).size = 1 := rfl
  rw [if_pos (by omega), if_pos (by rw [ByteArray.size_append]; omega)]
 ·rw [if_neg c, if_neg c]
theorem putS_small {st : List S61} (h : SmallS st) (lg : Bool) (s : ByteArray) (k : Int) : SmallS (putS st lg s k).1 := by
 intro p hp
 unfold putS at hp
 rcases List.mem_cons.1 hp with rfl | hp
 ·show (if s.size > 4096 then (⟨#[]⟩ : ByteArray) else s).size ≤ 4096
  split
  ·exact Nat.zero_le _
  ·omega
 ·exact h p hp
theorem putS_len (st : List S61) (lg : Bool) (s : ByteArray) (k : Int) : (putS st lg s k).1.length = st.length + 1 := rfl
theorem step_fits {names : List ByteArray} {st : List S61} {lg : Bool} {t : Tk} {q : List S61 × Bool} (h : stepS names st lg t = some q) (hs : SmallS st) : SmallS q.1 ∧ q.1.length ≤ st.length + 1 := by
 unfold stepS at h
 have fin : ∀ {s : List S61} {a : ByteArray} {k : Int}, SmallS s → s.length ≤ st.length → some (putS s lg a k) = some q → SmallS q.1 ∧ q.1.length ≤ st.length + 1 := by
  intro s a k h1 h2 h3
  cases h3
  exact ⟨putS_small h1 _ _ _, by rw [putS_len]; omega⟩
 have c1 : ∀ {x : S61} {s : List S61}, st = x :: s → SmallS s ∧ s.length ≤ st.length := by
  rintro x s rfl
  exact ⟨fun p hp => hs p (List.mem_cons_of_mem _ hp), by rw [List.length_cons]; omega⟩
 have c2 : ∀ {x y : S61} {s : List S61}, st = x :: y :: s → SmallS s ∧ s.length ≤ st.length := by
  rintro x y s rfl
  exact ⟨fun p hp => hs p (List.mem_cons_of_mem _ (List.mem_cons_of_mem _ hp)), by rw [List.length_cons, List.length_cons]; omega⟩
 repeat' split at h
 all_goals first | exact fin hs (Nat.le_refl _) h | exact fin (c1 rfl).1 (c1 rfl).2 h | exact fin (c2 rfl).1 (c2 rfl).2 h | cases h
set_option maxRecDepth 10000 in
theorem tok_step (w0 : World) (g : Nat) (nm : Option Addr) (names : List ByteArray) (cn : Nat) (hnm : Kd.C Kd.string w0 nm names.length names) (st : List S61) (lg : Bool) (t : Tk) (q : List S61 × Bool) (hq : stepS names st lg t = some q) (hs : SmallS st) (hlen : st.length ≤ 900) (hp0 : 0 ≤ t.f1) (hp1 : t.f1 < 256) (hp : t.f0 = 2 → t.f1 < names.length) (W : World) (h : WkAt w0 g nm names.length cn W st.reverse lg) :
  Calls Tryz.prog 27 #[.pointer (some ⟨g, 0, none⟩), .agg #[.int .u8 t.f0, .int .u8 t.f1]] W fun e w' => e = .returned (.tuple #[]) ∧ WkAt w0 g nm names.length cn w' q.1.reverse q.2 := by
 obtain ⟨o, p⟩ := t
 have hl : st.reverse.length ≤ 900 := by rw [List.length_reverse]; exact hlen
 have one : ∀ {x : S61} {s : List S61}, st = x :: s → st.reverse = s.reverse ++ [x] ∧ s.reverse.length ≤ 900 ∧ x.f0.size ≤ 4096 := by
  rintro x s rfl
  exact ⟨List.reverse_cons, by rw [List.length_reverse]; rw [List.length_cons] at hlen; omega, hs x List.mem_cons_self⟩
 have two : ∀ {x y : S61} {s : List S61}, st = x :: y :: s → st.reverse = (s.reverse ++ [y]) ++ [x] ∧ s.reverse.length ≤ 900 ∧ x.f0.size ≤ 4096 ∧ y.f0.size ≤ 4096 := by
  rintro x y s rfl
  exact ⟨by rw [List.reverse_cons, List.reverse_cons], by rw [List.length_reverse]; rw [List.length_cons, List.length_cons] at hlen; omega, hs x List.mem_cons_self, hs y (List.mem_cons_of_mem _ List.mem_cons_self)⟩
 have ws : ∀ (x : S61) (n : Int), x.f0.size ≤ 4096 → (withinP x n).size ≤ 4098 := fun x n hx => by have := withinP_size x n; omega
 have rv : ∀ (s : List S61) (a : ByteArray) (k : Int), (putS s lg a k).1.reverse = putP s.reverse a k := fun s a k => List.reverse_cons
 unfold stepS at hq
 show Calls _ _ #[_, .agg #[.int .u8 o, .int .u8 p]] W _
 have hp' : o = 2 → p < names.length := hp
 have hp0' : 0 ≤ p := hp0
 have hp1' : p < 256 := hp1
 clear hp hp0 hp1
 simp only at hq
 by_cases c2 : o = 2
 ·rw [if_pos c2] at hq
  cases hq
  rw [rv]
  subst c2
  have hk := hp' rfl
  obtain ⟨k, rfl⟩ : ∃ k : Nat, p = k := ⟨p.toNat, by omega⟩
  exact tok_2 w0 g nm names cn st.reverse lg k (by omega) (by omega) hnm hl W h
 rw [if_neg c2] at hq
 by_cases c_leaf : leafO o = true
 ·rw [if_pos c_leaf] at hq
  have hor : o = 0 ∨ o = 1 ∨ o = 3 := by unfold leafO at c_leaf; simp only [Bool.or_eq_true, beq_iff_eq] at c_leaf; omega
  cases hq
  rw [rv]
  rcases hor with rfl | rfl | rfl
  ·exact tok_0 w0 g nm names.length cn st.reverse lg p hl W h
  ·exact tok_1 w0 g nm names.length cn st.reverse lg p hl W h
  ·exact tok_3 w0 g nm names.length cn st.reverse lg p hl W h
 rw [if_neg c_leaf] at hq
 by_cases c_un : unO o = true
 ·rw [if_pos c_un] at hq
  have hor : o = 6 ∨ o = 7 ∨ o = 8 ∨ o = 9 ∨ o = 10 ∨ o = 20 := by unfold unO at c_un; simp only [Bool.or_eq_true, beq_iff_eq] at c_un; omega
  cases hst : st with
  | nil => rw [hst] at hq; cases hq
  | cons x s =>
   rw [hst] at hq
   cases hq
   rw [rv]
   obtain ⟨e1, e2, e3⟩ := one hst
   rw [e1] at h
   rcases hor with rfl | rfl | rfl | rfl | rfl | rfl
   ·exact tok_6 w0 g nm names.length cn s.reverse x lg p e2 (withinP x _) (within_f x _ e3) (ws x _ e3) W h
   ·exact tok_7 w0 g nm names.length cn s.reverse x lg p e2 (withinP x _) (within_f x _ e3) (ws x _ e3) W h
   ·exact tok_8 w0 g nm names.length cn s.reverse x lg p e2 (withinP x _) (within_f x _ e3) (ws x _ e3) W h
   ·exact tok_9 w0 g nm names.length cn s.reverse x lg p e2 (withinP x _) (within_f x _ e3) (ws x _ e3) W h
   ·exact tok_10 w0 g nm names.length cn s.reverse x lg p e2 (withinP x _) (within_f x _ e3) (ws x _ e3) W h
   ·exact tok_20 w0 g nm names.length cn s.reverse x lg p e2 (withinP x _) (within_f x _ e3) (ws x _ e3) W h
 rw [if_neg c_un] at hq
 by_cases c_b : o = 19
 ·rw [if_pos c_b] at hq
  cases hst : st with
  | nil => rw [hst] at hq; cases hq
  | cons x s =>
   rw [hst] at hq
   cases hq
   rw [rv]
   obtain ⟨e1, e2, e3⟩ := one hst
   rw [e1] at h
   subst c_b
   exact tok_19 w0 g nm names.length cn s.reverse x lg p e2 e3 W h
 rw [if_neg c_b] at hq
 by_cases c_s : o = 23
 ·rw [if_pos c_s] at hq
  cases hst : st with
  | nil => rw [hst] at hq; cases hq
  | cons x s =>
   rw [hst] at hq
   cases hq
   rw [rv]
   obtain ⟨e1, e2, e3⟩ := one hst
   rw [e1] at h
   subst c_s
   exact tok_23 w0 g nm names.length cn s.reverse x lg p e2 (withinP x _) (within_f x _ e3) (ws x _ e3) W h
 rw [if_neg c_s] at hq
 by_cases c_d17 : o = 17
 ·rw [if_pos c_d17] at hq
  match st with
  | [] => cases hq
  | [_] => cases hq
  | x :: y :: s =>
   cases hq
   rw [rv]
   obtain ⟨e1, e2, e3, e4⟩ := two rfl
   rw [e1] at h
   subst c_d17
   exact tok_17 w0 g nm names.length cn s.reverse y x lg p e2 (withinP x _) (within_f x _ e3) (ws x _ e3) e4 W h
 rw [if_neg c_d17] at hq
 by_cases c_d18 : o = 18
 ·rw [if_pos c_d18] at hq
  match st with
  | [] => cases hq
  | [_] => cases hq
  | x :: y :: s =>
   cases hq
   rw [rv]
   obtain ⟨e1, e2, e3, e4⟩ := two rfl
   rw [e1] at h
   subst c_d18
   exact tok_18 w0 g nm names.length cn s.reverse y x lg p e2 (withinP x _) (within_f x _ e3) (ws x _ e3) e4 W h
 rw [if_neg c_d18] at hq
 by_cases c_bi : binO o = true
 ·rw [if_pos c_bi] at hq
  have hor : o = 11 ∨ o = 12 ∨ o = 13 ∨ o = 14 ∨ o = 15 ∨ o = 16 ∨ o = 21 ∨ o = 22 := by unfold binO at c_bi; simp only [Bool.or_eq_true, beq_iff_eq] at c_bi; omega
  match st with
  | [] => cases hq
  | [_] => cases hq
  | x :: y :: s =>
   cases hq
   rw [rv]
   obtain ⟨e1, e2, e3, e4⟩ := two rfl
   rw [e1] at h
   rcases hor with rfl | rfl | rfl | rfl | rfl | rfl | rfl | rfl
   ·exact tok_11 w0 g nm names.length cn s.reverse y x lg p e2 (withinP y _) (within_f y _ e4) (ws y _ e4) (withinP x _) (within_f x _ e3) (ws x _ e3) W h
   ·exact tok_12 w0 g nm names.length cn s.reverse y x lg p e2 (withinP y _) (within_f y _ e4) (ws y _ e4) (withinP x _) (within_f x _ e3) (ws x _ e3) W h
   ·exact tok_13 w0 g nm names.length cn s.reverse y x lg p e2 (withinP y _) (within_f y _ e4) (ws y _ e4) (withinP x _) (within_f x _ e3) (ws x _ e3) W h
   ·exact tok_14 w0 g nm names.length cn s.reverse y x lg p e2 (withinP y _) (within_f y _ e4) (ws y _ e4) (withinP x _) (within_f x _ e3) (ws x _ e3) W h
   ·exact tok_15 w0 g nm names.length cn s.reverse y x lg p e2 (withinP y _) (within_f y _ e4) (ws y _ e4) (withinP x _) (within_f x _ e3) (ws x _ e3) W h
   ·exact tok_16 w0 g nm names.length cn s.reverse y x lg p e2 (withinP y _) (within_f y _ e4) (ws y _ e4) (withinP x _) (within_f x _ e3) (ws x _ e3) W h
   ·exact tok_21 w0 g nm names.length cn s.reverse y x lg p e2 (withinP y _) (within_f y _ e4) (ws y _ e4) (withinP x _) (within_f x _ e3) (ws x _ e3) W h
   ·exact tok_22 w0 g nm names.length cn s.reverse y x lg p e2 (withinP y _) (within_f y _ e4) (ws y _ e4) (withinP x _) (within_f x _ e3) (ws x _ e3) W h
 ·rw [if_neg c_bi] at hq
  cases hq
def moreT (t : Tk) : Bool := decide (t.f0 = 4) || decide (t.f0 = 5)
def outT (n : Nat) (t : Tk) : Bool := decide (t.f0 = 2) && decide ((n : Int) ≤ t.f1)
def okT (t : Tk) : Bool := decide (0 ≤ t.f0) && decide (t.f0 < 256) && decide (0 ≤ t.f1) && decide (t.f1 < 256)
theorem tok_at {W : World} {A : Option Addr} {n : Nat} {toks : List Tk} (h : Kd.C k41 W A n toks) (i : Nat) (hi : i < toks.length) (hn : toks.length = n) : ∃ ad, A = some ad ∧ W.cell? (ad.add (i * 2)) = some (.int .u8 toks[i].f0) ∧ W.cell? ⟨(ad.add (i * 2)).block, (ad.add (i * 2)).off + 1, none⟩ = some (.int .u8 toks[i].f1) := by
 obtain ⟨ad, c, e, _, hK, hc0⟩ := Kd.C_get h (⟨0, 0⟩ : Tk) (i : Int) (by omega) (by omega)
 have hc : ∀ j u, c[j]? = some u → W.cell? (ad.add ((i : Int).toNat * 2 + j)) = some u := hc0
 rw [Int.toNat_natCast] at hK hc
 obtain rfl := k41_open hK
 have hx : toks.getD i (⟨0, 0⟩ : Tk) = toks[i] := by simp [List.getD, List.getElem?_eq_getElem hi]
 rw [hx] at hc
 exact ⟨ad, e, hc 0 _ rfl, by rw [← add_field _ _ 1 (by omega)]; exact hc 1 _ rfl⟩
set_option maxHeartbeats 8000000 in
set_option maxRecDepth 100000 in
theorem text_more (A0 : Option Addr) (c0 : Nat) (names : List ByteArray) (A1 : Option Addr) (c1 : Nat) (toks : List Tk) (w : World) (hr1 : Kd.C k41 w A1 toks.length toks) (hlen : toks.length ≤ 900) (hany : toks.any moreT = true) :
  Calls Tryz.prog 15 #[.slice A0 names.length c0, .slice A1 toks.length c1] w fun e w' => e = .returned (.tuple #[.string ⟨#[]⟩, .int .i64 160]) ∧ Below w.heap.size w w' := by
 have HR := Aside0.mk hr1
 have HL := Aside0.mk hlen
 have HA := Aside0.mk hany
 have HB := Aside0.mk (Below.refl w.heap.size w)
 clear hr1 hlen hany
 go_enter Tryz.func15, Tryz.ntmps15
 go_wp2
 go_loopg [15] toks.length (fun kq v15 w' => ∃ (i : Nat), v15 = .int .i64 (i : Int) ∧ Aside0 (i + kq = toks.length) ∧ Aside0 ((toks.drop i).any moreT = true) ∧ Aside0 (Below w.heap.size w w'))
 case atStart => exact ⟨0, rfl, ⟨by omega⟩, ⟨HA.out⟩, HB⟩
 case round =>
  clear HB HA
  obtain ⟨i, rfl, hi, hq, HB⟩ := hrel
  have hq0 := hq.out
  clear hq
  cases gk with
  | zero =>
   rw [List.drop_of_length_le (by have := hi.out; omega)] at hq0
   cases hq0
  | succ k1 =>
   have hil : i < toks.length := by have := hi.out; omega
   obtain ⟨ad, ead, y0, y1⟩ := tok_at HR.out i hil rfl
   subst ead
   replace y0 := below_cell y0 HB.out
   replace y1 := below_cell y1 HB.out
   rw [List.drop_eq_getElem_cons hil, List.any_cons] at hq0
   obtain ⟨⟨o, p⟩, hx⟩ : ∃ x : Tk, x = toks[i] := ⟨_, rfl⟩
   rw [← hx] at y0 y1 hq0
   have cin : decide (i < toks.length) = true := decide_eq_true hil
   have p1 := eq_true (show (0 : Int) ≤ (i : Int) by omega)
   have p2 := eq_true hil
   have hw : Aside0 (wrap64 ((i : Int) + 1) = ((i + 1 : Nat) : Int)) := ⟨by have := HL.out; unfold wrap64; omega⟩
   have hi1 : Aside0 (i + 1 + k1 = toks.length) := ⟨by have := hi.out; omega⟩
   clear hx hi hil
   by_cases c4 : o = 4
   ·subst c4
    clear hq0
    go_wp2
    go_ret2
    exact ⟨rfl, by repeat (first | exact HB.out | apply below_alloc | apply pw_below_drewN | apply below_drew1)⟩
   ·by_cases c5 : o = 5
    ·subst c5
     clear hq0
     go_wp2
     go_ret2
     exact ⟨rfl, by repeat (first | exact HB.out | apply below_alloc | apply pw_below_drewN | apply below_drew1)⟩
    ·have hq1 : Aside0 ((toks.drop (i + 1)).any moreT = true) := ⟨by
      have e : moreT (⟨o, p⟩ : Tk) = false := by unfold moreT; simp [c4, c5]
      rw [e, Bool.false_or] at hq0
      exact hq0⟩
     have d4 : (o == 4) = false := beq_eq_false_iff_ne.2 c4
     have d5 : (o == 5) = false := beq_eq_false_iff_ne.2 c5
     clear hq0
     go_wp2
     go_roundg k1
     case measure => exact Nat.lt_succ_self _
     case rel => exact ⟨i + 1, by first | rfl | (show Value.int .i64 (wrap64 _) = _; rw [hw.out]), hi1, hq1, ⟨by repeat (first | exact HB.out | apply below_alloc | apply pw_below_drewN | apply below_drew1)⟩⟩
theorem run_field117 (w : World) (s : ByteArray) (k : Int) : (Instr.field 61 (Value.agg #[.string s, .int .i64 k]) 0).run Tryz.prog w = .ok (.string s) w := by kernel_rfl
theorem moreT_no {t : Tk} (h : moreT t = false) : (t.f0 == 4) = false ∧ (t.f0 == 5) = false := by
 unfold moreT at h
 simp only [Bool.or_eq_false_iff, decide_eq_false_iff_not] at h
 exact ⟨beq_eq_false_iff_ne.2 h.1, beq_eq_false_iff_ne.2 h.2⟩
theorem okT_p {t : Tk} (h : okT t = true) : 0 ≤ t.f1 ∧ t.f1 < 256 := by
 unfold okT at h
 simp only [Bool.and_eq_true, decide_eq_true_eq] at h
 exact ⟨h.1.2, h.2⟩
set_option maxHeartbeats 16000000 in
set_option maxRecDepth 100000 in
theorem text_out (A0 : Option Addr) (c0 : Nat) (names : List ByteArray) (A1 : Option Addr) (c1 : Nat) (toks : List Tk) (w : World) (hr0 : Kd.C Kd.string w A0 names.length names) (hr1 : Kd.C k41 w A1 toks.length toks) (hlen : toks.length ≤ 900) (hok : ∀ t ∈ toks, okT t = true) (hmore : ∀ t ∈ toks, moreT t = false) (hany : toks.any (outT names.length) = true) :
  Calls Tryz.prog 15 #[.slice A0 names.length c0, .slice A1 toks.length c1] w fun e w' => e = .returned (.tuple #[.string ⟨#[]⟩, .int .i64 2]) ∧ Below w.heap.size w w' := by
 have HN := Aside0.mk hr0
 have HR := Aside0.mk hr1
 have HL := Aside0.mk hlen
 have HK := Aside0.mk hok
 have HM := Aside0.mk hmore
 have HB := Aside0.mk (Below.refl w.heap.size w)
 have HA := Aside0.mk hany
 clear hany
 clear hr0 hr1 hlen hok hmore
 go_enter Tryz.func15, Tryz.ntmps15
 go_wp2
 go_loopg [15] toks.length (fun kq v15 w' => ∃ (i : Nat), v15 = .int .i64 (i : Int) ∧ Aside0 (i + kq = toks.length) ∧ Aside0 (Below w.heap.size w w'))
 case atStart => exact ⟨0, rfl, ⟨by omega⟩, HB⟩
 case round =>
  clear HB
  obtain ⟨i, rfl, hi, HB⟩ := hrel
  cases gk with
  | succ k1 =>
   have hil : i < toks.length := by have := hi.out; omega
   obtain ⟨ad, ead, y0, y1⟩ := tok_at HR.out i hil rfl
   cases ead
   replace y0 := below_cell y0 HB.out
   replace y1 := below_cell y1 HB.out
   have hmem := List.getElem_mem hil
   have hm := HM.out _ hmem
   obtain ⟨⟨o, p⟩, hx⟩ : ∃ x : Tk, x = toks[i] := ⟨_, rfl⟩
   rw [← hx] at y0 y1 hm
   have cin : decide (i < toks.length) = true := decide_eq_true hil
   have p1 := eq_true (show (0 : Int) ≤ (i : Int) by omega)
   have p2 := eq_true hil
   have hw : Aside0 (wrap64 ((i : Int) + 1) = ((i + 1 : Nat) : Int)) := ⟨by have := HL.out; unfold wrap64; omega⟩
   have hi1 : Aside0 (i + 1 + k1 = toks.length) := ⟨by have := hi.out; omega⟩
   obtain ⟨d4, d5⟩ := moreT_no hm
   clear hx hi hil hmem hm
   go_wp2
   go_roundg k1
   case measure => exact Nat.lt_succ_self _
   case rel => exact ⟨i + 1, by first | rfl | (show Value.int .i64 (wrap64 _) = _; rw [hw.out]), hi1, ⟨by repeat (first | exact HB.out | apply below_alloc | apply pw_below_drewN | apply below_drew1)⟩⟩
  | zero =>
   have cin : decide (i < toks.length) = false := decide_eq_false (by have := hi.out; omega)
   clear hi
   go_wp2
   clear cin
   go_loopg [30] toks.length (fun kq v30 w' => ∃ (i : Nat), v30 = .int .i64 (i : Int) ∧ Aside0 (i + kq = toks.length) ∧ Aside0 ((toks.drop i).any (outT names.length) = true) ∧ Aside0 (Below w.heap.size w w'))
   case atStart => exact ⟨0, rfl, ⟨by omega⟩, HA, HB⟩
   case round =>
    clear HB HA
    obtain ⟨i, rfl, hi, hq, HB⟩ := hrel
    have hq0 := hq.out
    clear hq
    cases gk with
    | zero =>
     rw [List.drop_of_length_le (by have := hi.out; omega)] at hq0
     cases hq0
    | succ k1 =>
     have hil0 : i < toks.length := by have := hi.out; omega
     rw [List.drop_eq_getElem_cons hil0, List.any_cons] at hq0
     have hil : i < toks.length := by have := hi.out; omega
     obtain ⟨ad, ead, y0, y1⟩ := tok_at HR.out i hil rfl
     cases ead
     replace y0 := below_cell y0 HB.out
     replace y1 := below_cell y1 HB.out
     have hmem := List.getElem_mem hil
     have hm : outT names.length toks[i] = outT names.length toks[i] := rfl
     obtain ⟨⟨o, p⟩, hx⟩ : ∃ x : Tk, x = toks[i] := ⟨_, rfl⟩
     rw [← hx] at y0 y1 hq0
     have cin : decide (i < toks.length) = true := decide_eq_true hil
     have p1 := eq_true (show (0 : Int) ≤ (i : Int) by omega)
     have p2 := eq_true hil
     have hw : Aside0 (wrap64 ((i : Int) + 1) = ((i + 1 : Nat) : Int)) := ⟨by have := HL.out; unfold wrap64; omega⟩
     have hi1 : Aside0 (i + 1 + k1 = toks.length) := ⟨by have := hi.out; omega⟩
     have hno := hm
     have hok := HK.out _ hmem
     rw [← hx] at hok
     have hb12 : 0 ≤ p ∧ p < 256 := okT_p hok
     obtain ⟨b1, b2⟩ := hb12
     have gw : IntKind.i64.wrap p = p := IntWalk.i64_in _ ⟨by omega, by omega⟩
     clear hok
     have next : outT names.length (⟨o, p⟩ : Tk) = false → Aside0 ((toks.drop (i + 1)).any (outT names.length) = true) := fun e => ⟨by rw [e, Bool.false_or] at hq0; exact hq0⟩
     clear hq0 hm hno
     by_cases c2 : o = 2
     ·subst c2
      by_cases hlt : (names.length : Int) ≤ p
      ·have g1 : decide ((names.length : Int) ≤ p) = true := decide_eq_true hlt
       have g2 : ((names.length : Int) ≤ p) = True := eq_true hlt
       clear hx hi hil hil0 hmem hlt b1 b2 next
       go_wp2
       go_ret2
       exact ⟨rfl, by repeat (first | exact HB.out | apply below_alloc | apply pw_below_drewN | apply below_drew1)⟩
      ·have g1 : decide ((names.length : Int) ≤ p) = false := decide_eq_false hlt
       have g2 : ((names.length : Int) ≤ p) = False := eq_false hlt
       have hq1 := next (by unfold outT; rw [g1]; exact Bool.and_false _)
       clear hx hi hil hil0 hmem hlt b1 b2 next
       go_wp2
       go_roundg k1
       case measure => exact Nat.lt_succ_self _
       case rel => exact ⟨i + 1, by first | rfl | (show Value.int .i64 (wrap64 _) = _; rw [hw.out]), hi1, hq1, ⟨by repeat (first | exact HB.out | apply below_alloc | apply pw_below_drewN | apply below_drew1)⟩⟩
     ·have d2 : (o == 2) = false := beq_eq_false_iff_ne.2 c2
      have hq1 := next (by unfold outT; rw [decide_eq_false c2]; exact Bool.false_and _)
      clear hx hi hil hil0 hmem b1 b2 c2 next
      go_wp2
      go_roundg k1
      case measure => exact Nat.lt_succ_self _
      case rel => exact ⟨i + 1, by first | rfl | (show Value.int .i64 (wrap64 _) = _; rw [hw.out]), hi1, hq1, ⟨by repeat (first | exact HB.out | apply below_alloc | apply pw_below_drewN | apply below_drew1)⟩⟩
set_option maxHeartbeats 16000000 in
set_option maxRecDepth 100000 in
theorem text_run (A0 : Option Addr) (c0 : Nat) (names : List ByteArray) (A1 : Option Addr) (c1 : Nat) (toks : List Tk) (w : World) (hr0 : Kd.C Kd.string w A0 names.length names) (hr1 : Kd.C k41 w A1 toks.length toks) (hlen : toks.length ≤ 900) (hok : ∀ t ∈ toks, okT t = true) (hmore : ∀ t ∈ toks, moreT t = false) (hout : ∀ t ∈ toks, outT names.length t = false) (st : List S61) (lg : Bool) (hrun : runS names [] false toks = some (st, lg)) (rs : ByteArray) (rc : Int) (hres : (lg = true ∧ rs = ⟨#[]⟩ ∧ rc = 3) ∨ (lg = false ∧ rc = 0 ∧ ∃ x s, st = x :: s ∧ rs = x.f0)) :
  Calls Tryz.prog 15 #[.slice A0 names.length c0, .slice A1 toks.length c1] w fun e w' => e = .returned (.tuple #[.string rs, .int .i64 rc]) ∧ Below w.heap.size w w' := by
 have HN := Aside0.mk hr0
 have HR := Aside0.mk hr1
 have HL := Aside0.mk hlen
 have HK := Aside0.mk hok
 have HM := Aside0.mk hmore
 have HB := Aside0.mk (Below.refl w.heap.size w)
 have HO2 := Aside0.mk hout
 have HRUN := Aside0.mk hrun
 have HRES := Aside0.mk hres
 clear hout hrun hres
 clear hr0 hr1 hlen hok hmore
 go_enter Tryz.func15, Tryz.ntmps15
 go_wp2
 go_loopg [15] toks.length (fun kq v15 w' => ∃ (i : Nat), v15 = .int .i64 (i : Int) ∧ Aside0 (i + kq = toks.length) ∧ Aside0 (Below w.heap.size w w'))
 case atStart => exact ⟨0, rfl, ⟨by omega⟩, HB⟩
 case round =>
  clear HB
  obtain ⟨i, rfl, hi, HB⟩ := hrel
  cases gk with
  | succ k1 =>
   have hil : i < toks.length := by have := hi.out; omega
   obtain ⟨ad, ead, y0, y1⟩ := tok_at HR.out i hil rfl
   cases ead
   replace y0 := below_cell y0 HB.out
   replace y1 := below_cell y1 HB.out
   have hmem := List.getElem_mem hil
   have hm := HM.out _ hmem
   obtain ⟨⟨o, p⟩, hx⟩ : ∃ x : Tk, x = toks[i] := ⟨_, rfl⟩
   rw [← hx] at y0 y1 hm
   have cin : decide (i < toks.length) = true := decide_eq_true hil
   have p1 := eq_true (show (0 : Int) ≤ (i : Int) by omega)
   have p2 := eq_true hil
   have hw : Aside0 (wrap64 ((i : Int) + 1) = ((i + 1 : Nat) : Int)) := ⟨by have := HL.out; unfold wrap64; omega⟩
   have hi1 : Aside0 (i + 1 + k1 = toks.length) := ⟨by have := hi.out; omega⟩
   obtain ⟨d4, d5⟩ := moreT_no hm
   clear hx hi hil hmem hm
   go_wp2
   go_roundg k1
   case measure => exact Nat.lt_succ_self _
   case rel => exact ⟨i + 1, by first | rfl | (show Value.int .i64 (wrap64 _) = _; rw [hw.out]), hi1, ⟨by repeat (first | exact HB.out | apply below_alloc | apply pw_below_drewN | apply below_drew1)⟩⟩
  | zero =>
   have cin : decide (i < toks.length) = false := decide_eq_false (by have := hi.out; omega)
   clear hi
   go_wp2
   clear cin
   go_loopg [30] toks.length (fun kq v30 w' => ∃ (i : Nat), v30 = .int .i64 (i : Int) ∧ Aside0 (i + kq = toks.length) ∧ Aside0 (Below w.heap.size w w'))
   case atStart => exact ⟨0, rfl, ⟨by omega⟩, HB⟩
   case round =>
    clear HB
    obtain ⟨i, rfl, hi, HB⟩ := hrel
    cases gk with
    | succ k1 =>
     have hil : i < toks.length := by have := hi.out; omega
     obtain ⟨ad, ead, y0, y1⟩ := tok_at HR.out i hil rfl
     cases ead
     replace y0 := below_cell y0 HB.out
     replace y1 := below_cell y1 HB.out
     have hmem := List.getElem_mem hil
     have hm := HO2.out _ hmem
     obtain ⟨⟨o, p⟩, hx⟩ : ∃ x : Tk, x = toks[i] := ⟨_, rfl⟩
     rw [← hx] at y0 y1 hm
     have cin : decide (i < toks.length) = true := decide_eq_true hil
     have p1 := eq_true (show (0 : Int) ≤ (i : Int) by omega)
     have p2 := eq_true hil
     have hw : Aside0 (wrap64 ((i : Int) + 1) = ((i + 1 : Nat) : Int)) := ⟨by have := HL.out; unfold wrap64; omega⟩
     have hi1 : Aside0 (i + 1 + k1 = toks.length) := ⟨by have := hi.out; omega⟩
     have hno := hm
     have hok := HK.out _ hmem
     rw [← hx] at hok
     have hb12 : 0 ≤ p ∧ p < 256 := okT_p hok
     obtain ⟨b1, b2⟩ := hb12
     have gw : IntKind.i64.wrap p = p := IntWalk.i64_in _ ⟨by omega, by omega⟩
     clear hok
     by_cases c2 : o = 2
     ·have hlt : p < (names.length : Int) := by
       have := hno
       unfold outT at this
       rw [c2] at this
       simp at this
       omega
      subst c2
      have g1 : decide ((names.length : Int) ≤ p) = false := decide_eq_false (by omega)
      have g2 : ((names.length : Int) ≤ p) = False := eq_false (by omega)
      clear hx hi hil hmem hm hno hlt b1 b2
      go_wp2
      go_roundg k1
      case measure => exact Nat.lt_succ_self _
      case rel => exact ⟨i + 1, by first | rfl | (show Value.int .i64 (wrap64 _) = _; rw [hw.out]), hi1, ⟨by repeat (first | exact HB.out | apply below_alloc | apply pw_below_drewN | apply below_drew1)⟩⟩
     ·have d2 : (o == 2) = false := beq_eq_false_iff_ne.2 c2
      clear hx hi hil hmem hm hno b1 b2 c2
      go_wp2
      go_roundg k1
      case measure => exact Nat.lt_succ_self _
      case rel => exact ⟨i + 1, by first | rfl | (show Value.int .i64 (wrap64 _) = _; rw [hw.out]), hi1, ⟨by repeat (first | exact HB.out | apply below_alloc | apply pw_below_drewN | apply below_drew1)⟩⟩
    | zero =>
     have cin : decide (i < toks.length) = false := decide_eq_false (by have := hi.out; omega)
     clear hi
     go_wp2_with (go_at_call 26; refine (looks_calls _).mono ?_; rintro e w3 ⟨rfl, hq⟩; have HB3 := Aside0.mk hq; clear hq)
     clear cin
     have hgrow : w.heap.size ≤ w3.heap.size := (below_step HB.out HB3.out).size
     have HW0 : ∀ cs, cs = wkA A0 names.length c0 (.slice none 0 0) false → WkAt w w3.heap.size A0 names.length c0 (w3.alloc (.cells cs 58)) [] false := by
      intro cs e
      rw [e]
      exact ⟨.slice none 0 0, blk_new _ _, hgrow, Kd.R_nil _ _ _ _ _, below_alloc (below_step HB.out HB3.out) _⟩
     obtain ⟨g, hg⟩ : ∃ g, g = w3.heap.size := ⟨_, rfl⟩
     rw [← hg] at HW0
     rw [← hg]
     have HW1 := Aside0.mk HW0
     clear HW0 hgrow HB HB3
     go_loopg [52] toks.length (fun kq v52 w' => ∃ (i : Nat) (sk : List S61) (lk : Bool), v52 = .int .i64 (i : Int) ∧ Aside0 (i + kq = toks.length) ∧ Aside0 (WkAt w g A0 names.length c0 w' sk.reverse lk) ∧ Aside0 (SmallS sk ∧ sk.length ≤ i) ∧ Aside0 (runS names sk lk (toks.drop i) = some (st, lg)))
     case atStart => exact ⟨0, [], false, rfl, ⟨by omega⟩, ⟨HW1.out _ (by kernel_rfl)⟩, ⟨fun p hp => (by cases hp), Nat.le_refl _⟩, HRUN⟩
     case round =>
      clear HW1 HRUN hg
      obtain ⟨i, sk, lk, rfl, hi, HWK, hsm, hrun⟩ := hrel
      obtain ⟨HBx⟩ : Aside0 (Below w.heap.size w wr) := ⟨by obtain ⟨_, _, _, _, h⟩ := HWK.out; exact h⟩
      have HB := Aside0.mk HBx
      clear HBx
      cases gk with
      | succ k1 =>
       have hil0 : i < toks.length := by have := hi.out; omega
       have hr := hrun.out
       rw [List.drop_eq_getElem_cons hil0] at hr
       clear hrun
       have hil : i < toks.length := by have := hi.out; omega
       obtain ⟨ad, ead, y0, y1⟩ := tok_at HR.out i hil rfl
       cases ead
       replace y0 := below_cell y0 HB.out
       replace y1 := below_cell y1 HB.out
       have hmem := List.getElem_mem hil
       have hm := HO2.out _ hmem
       have hok := HK.out _ hmem
       obtain ⟨⟨o, p⟩, hx⟩ : ∃ x : Tk, x = toks[i] := ⟨_, rfl⟩
       rw [← hx] at y0 y1 hm hok hr
       have cin : decide (i < toks.length) = true := decide_eq_true hil
       have p1 := eq_true (show (0 : Int) ≤ (i : Int) by omega)
       have p2 := eq_true hil
       have hw : Aside0 (wrap64 ((i : Int) + 1) = ((i + 1 : Nat) : Int)) := ⟨by have := HL.out; unfold wrap64; omega⟩
       have hi1 : Aside0 (i + 1 + k1 = toks.length) := ⟨by have := hi.out; omega⟩
       obtain ⟨b1, b2⟩ := okT_p hok
       have hlt : o = 2 → p < (names.length : Int) := fun c2 => by
        have := hm
        unfold outT at this
        rw [c2] at this
        simp at this
        omega
       obtain ⟨q, hq⟩ : ∃ q, stepS names sk lk ⟨o, p⟩ = some q := by
        cases hs : stepS names sk lk ⟨o, p⟩ with
        | some q => exact ⟨q, rfl⟩
        | none => rw [runS, hs] at hr; cases hr
       have hr2 : Aside0 (runS names q.1 q.2 (toks.drop (i + 1)) = some (st, lg)) := ⟨by rw [runS, hq] at hr; exact hr⟩
       have hf := step_fits hq hsm.out.1
       have hf2 : Aside0 (SmallS q.1 ∧ q.1.length ≤ i + 1) := ⟨hf.1, by have := hf.2; have := hsm.out.2; omega⟩
       have hlen9 : sk.length ≤ 900 := by have := hsm.out.2; have := HL.out; omega
       have hcall := Aside0.mk (fun W h => tok_step w g A0 names c0 HN.out sk lk ⟨o, p⟩ q hq hsm.out.1 hlen9 b1 b2 hlt W h)
       clear hr hf hlen9 b1 b2 hlt hq hsm hx hi hil hil0 hmem hm hok
       go_wp2_with (go_at_call 27; refine (hcall.out _ (HWK.out.below (below_alloc (Below.refl _ _) _))).mono ?_; rintro e w4 ⟨rfl, hwk⟩; have HW4 := Aside0.mk hwk; clear hwk)
       go_roundg k1
       case measure => exact Nat.lt_succ_self _
       case rel => exact ⟨i + 1, q.1, q.2, by first | rfl | (show Value.int .i64 (wrap64 _) = _; rw [hw.out]), hi1, HW4, hf2, hr2⟩
      | zero =>
       have cin : decide (i < toks.length) = false := decide_eq_false (by have := hi.out; omega)
       have hr := hrun.out
       rw [List.drop_of_length_le (by have := hi.out; omega), runS] at hr
       have hr := Option.some.inj hr
       obtain ⟨rfl, rfl⟩ := Prod.mk.inj hr
       have d98 : wr.cell? ⟨g, 98, none⟩ = some (.bool lk) := by obtain ⟨_, hb, _⟩ := HWK.out; exact (blk_cell hb 98).trans rfl
       have hlen9 : sk.length ≤ 900 := by have := hsm.out.2; have := hi.out; have := HL.out; omega
       clear hr hrun hi
       rcases HRES.out with ⟨rfl, rfl, rfl⟩ | ⟨rfl, rfl, x, s, rfl, rfl⟩
       ·clear hlen9 hsm HRES
        go_wp2
        go_ret2
        exact ⟨rfl, HB.out⟩
       ·have hcall := Aside0.mk (fun W2 hb => take_at w g A0 names.length c0 s.reverse x false (by rw [List.length_reverse]; rw [List.length_cons] at hlen9; omega) wr W2 (by have h := HWK.out; rw [List.reverse_cons] at h; exact h) hb)
        have hf117 := fun w => run_field117 w x.f0 x.f1
        clear hlen9 hsm HRES
        go_wp2_with (go_at_call 28; refine (hcall.out _ (Below.refl _ _)).mono ?_; rintro e w4 ⟨rfl, hwk, _⟩; have HW4 : Aside0 (Below w.heap.size w w4) := ⟨by obtain ⟨_, _, _, _, h⟩ := hwk; exact h⟩; clear hwk)
        go_ret2
        exact ⟨rfl, HW4.out⟩
def endS : Option (List S61 × Bool) → Option (ByteArray × Int)
 | none => none
 | some (_, true) => some (⟨#[]⟩, 3)
 | some (x :: _, false) => some (x.f0, 0)
 | some ([], false) => none
def show_text.f (names : List ByteArray) (toks : List Tk) : Option (ByteArray × Int) :=
 if toks.length ≤ 900 ∧ toks.all okT = true then
  (if toks.any moreT = true then some (⟨#[]⟩, 160)
  else if toks.any (outT names.length) = true then some (⟨#[]⟩, 2)
  else endS (runS names [] false toks))
 else none
theorem any_no {f : Tk → Bool} {l : List Tk} (h : ¬ l.any f = true) : ∀ t ∈ l, f t = false := by
 intro t ht
 cases hf : f t with
 | false => rfl
 | true => exact absurd (List.any_eq_true.2 ⟨t, ht, hf⟩) h
theorem show_text.calls (A0 : Option Addr) (c0 : Nat) (l0 : List ByteArray) (A1 : Option Addr) (c1 : Nat) (l1 : List (S41)) (r1 : ByteArray) (r2 : Int) (w : World) (hr0 : Kd.C Kd.string w A0 l0.length l0) (hc0 : l0.length ≤ c0) (hr1 : Kd.C k41 w A1 l1.length l1) (hc1 : l1.length ≤ c1) (h : show_text.f l0 l1 = some (r1, r2)) :
  Calls Tryz.prog 15 #[.slice A0 l0.length c0, .slice A1 l1.length c1] w fun e w' => e = .returned (.tuple #[.string r1, .int .i64 r2]) ∧ Below w.heap.size w w' := by
 unfold show_text.f at h
 by_cases c : l1.length ≤ 900 ∧ l1.all okT = true
 ·rw [if_pos c] at h
  have hok : ∀ t ∈ l1, okT t = true := List.all_eq_true.1 c.2
  by_cases cm : l1.any moreT = true
  ·rw [if_pos cm] at h
   cases h
   exact text_more A0 c0 l0 A1 c1 l1 w hr1 c.1 cm
  ·rw [if_neg cm] at h
   by_cases co : l1.any (outT l0.length) = true
   ·rw [if_pos co] at h
    cases h
    exact text_out A0 c0 l0 A1 c1 l1 w hr0 hr1 c.1 hok (any_no cm) co
   ·rw [if_neg co] at h
    cases hr : runS l0 [] false l1 with
    | none => rw [hr] at h; cases h
    | some q =>
     obtain ⟨st, lg⟩ := q
     rw [hr] at h
     refine text_run A0 c0 l0 A1 c1 l1 w hr0 hr1 c.1 hok (any_no cm) (any_no co) st lg hr r1 r2 ?_
     cases lg with
     | true => cases h; exact Or.inl ⟨rfl, rfl, rfl⟩
     | false =>
      cases st with
      | nil => cases h
      | cons x s => cases h; exact Or.inr ⟨rfl, rfl, x, s, rfl, rfl⟩
 ·rw [if_neg c] at h
  cases h
end Go.Proofs.YtaogoabnidbbpaaGreatDoor.PText
