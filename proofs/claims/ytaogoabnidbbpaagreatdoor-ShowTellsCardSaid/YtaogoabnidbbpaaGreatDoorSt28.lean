/- Texts of this work merged into one file, what the law does not need left out: RefFits; RefSmall. Conditions stand in each law. -/
import Derived.Test.YtaogoabnidbbpaaGreatDoorSt17
namespace Go.Proofs.YtaogoabnidbbpaaGreatDoor.PText
open Go.RowKit Go.Proofs.YtaogoabnidbbpaaGreatDoorW.PrintWords Go.Proofs.YtaogoabnidbbpaaGreatDoorW.PrintLast Go.Proofs.YtaogoabnidbbpaaGreatDoorW.PrintMore
set_option linter.unusedVariables false
set_option linter.unusedSimpArgs false
abbrev Rp := S86
theorem rp_first {A : Option Addr} {x : Rp} {l : List Rp} {w : World} (hr : Kd.C k86 w A (x :: l).length (x :: l)) : ∃ ad, A = some ad ∧ w.cell? ad = some (.bool x.f0) ∧ w.cell? ⟨ad.block, ad.off + 1, none⟩ = some (.bool x.f1) := by
 obtain ⟨ad, e1, h0, h1, h2, h3⟩ := at_T86 hr 0 (by omega) (by simp)
 refine ⟨ad, e1, ?_, ?_⟩
 ·rw [show (0 : Int).toNat * 4 = 0 from rfl, Addr.add_zero'] at h0; exact h0
 ·rw [show (0 : Int).toNat * 4 = 0 from rfl, Addr.add_zero'] at h1; exact h1
theorem rp_second {ad : Addr} {x y : Rp} {l : List Rp} {w : World} (hr : Kd.C k86 w (some ad) (x :: y :: l).length (x :: y :: l)) : w.cell? ⟨ad.block, ad.off + 4, none⟩ = some (.bool y.f0) := by
 obtain ⟨ad1, e1, h0, h1, h2, h3⟩ := at_T86 hr 1 (by omega) (by simp; omega)
 cases e1
 simp only [show (1 : Int).toNat = 1 from rfl, Nat.reduceMul, Nat.reduceEqDiff, Go.Addr.add, ↓reduceIte] at h0
 exact h0
/-- May the token take these parts? Nothing where there are too few. -/
def rejoinderref03_fits.f (a0 : Int) (l1 : List Rp) : Option Bool :=
 if a0 = 17 ∨ a0 = 18 then (match l1 with | x :: y :: _ => some (x.f0 && !y.f0) | _ => none)
 else if a0 = 21 ∨ a0 = 22 then (match l1 with | x :: y :: _ => some (x.f0 && y.f0) | _ => none)
 else if a0 = 23 then (match l1 with | x :: _ => some x.f0 | _ => none)
 else if a0 = 19 then (match l1 with | x :: _ => some (!x.f0 && x.f1) | _ => none)
 else if l1.length ≤ 1000 then some (!(l1.any fun x => x.f0)) else none
set_option maxHeartbeats 4000000 in
theorem rf_two (a0 : Int) (ad : Addr) (n c1 : Nat) (b b2 : Bool) (w : World) (hn : 2 ≤ n) (h0 : w.cell? ad = some (.bool b)) (h1 : w.cell? ⟨ad.block, ad.off + 4, none⟩ = some (.bool b2)) :
  ((a0 = 17 ∨ a0 = 18) → Calls Tryz.prog 57 #[.int .u8 a0, .slice (some ad) n c1] w fun e w' => e = .returned (.bool (b && !b2)) ∧ Drawn0 w w') ∧
  ((a0 = 21 ∨ a0 = 22) → Calls Tryz.prog 57 #[.int .u8 a0, .slice (some ad) n c1] w fun e w' => e = .returned (.bool (b && b2)) ∧ Drawn0 w w') := by
 have g0 : (0 : Int) < n := by omega
 have g1 : (1 : Int) < n := by omega
 constructor
 all_goals
  rintro (rfl | rfl)
  all_goals
   cases b
   all_goals
    go_enter Tryz.func57, Tryz.ntmps57
    go_wp2
    go_ret
    exact ⟨rfl, by repeat (first | exact Drawn0.refl _ | apply Drawn0.step)⟩
set_option maxHeartbeats 4000000 in
theorem rf_one (ad : Addr) (n c1 : Nat) (b b2 : Bool) (w : World) (hn : 1 ≤ n) (h0 : w.cell? ad = some (.bool b)) (h1 : w.cell? ⟨ad.block, ad.off + 1, none⟩ = some (.bool b2)) :
  (Calls Tryz.prog 57 #[.int .u8 23, .slice (some ad) n c1] w fun e w' => e = .returned (.bool b) ∧ Drawn0 w w') ∧
  (Calls Tryz.prog 57 #[.int .u8 19, .slice (some ad) n c1] w fun e w' => e = .returned (.bool (!b && b2)) ∧ Drawn0 w w') := by
 have g0 : (0 : Int) < n := by omega
 constructor
 all_goals
  cases b
  all_goals
   go_enter Tryz.func57, Tryz.ntmps57
   go_wp2
   go_ret
   exact ⟨rfl, by repeat (first | exact Drawn0.refl _ | apply Drawn0.step)⟩
set_option maxHeartbeats 4000000 in
theorem rf_else (a0 : Int) (A : Option Addr) (c : Nat) (l : List Rp) (r : Bool) (he : r = !(l.any fun x => x.f0)) (w : World) (hr : Kd.C k86 w A l.length l) (hl : l.length ≤ 1000)
  (c17 : ¬ a0 = 17) (c18 : ¬ a0 = 18) (c21 : ¬ a0 = 21) (c22 : ¬ a0 = 22) (c23 : ¬ a0 = 23) (c19 : ¬ a0 = 19) :
  Calls Tryz.prog 57 #[.int .u8 a0, .slice A l.length c] w fun e w' => e = .returned (.bool r) ∧ Drawn0 w w' := by
 have HR := Aside0.mk hr
 have HL := Aside0.mk hl
 have HE := Aside0.mk he
 clear hr hl he
 replace c17 : (a0 == 17) = false := beq_eq_false_iff_ne.mpr c17
 replace c18 : (a0 == 18) = false := beq_eq_false_iff_ne.mpr c18
 replace c21 : (a0 == 21) = false := beq_eq_false_iff_ne.mpr c21
 replace c22 : (a0 == 22) = false := beq_eq_false_iff_ne.mpr c22
 replace c23 : (a0 == 23) = false := beq_eq_false_iff_ne.mpr c23
 replace c19 : (a0 == 19) = false := beq_eq_false_iff_ne.mpr c19
 go_enter Tryz.func57, Tryz.ntmps57
 go_wp2
 go_loopg [5] l.length (fun kq v5 w' => ∃ j : Nat, v5 = .int .i64 (j : Int) ∧ Aside0 (j + kq = l.length) ∧ Aside0 ((l.any fun x => x.f0) = ((l.drop j).any fun x => x.f0)) ∧ Drawn0 w w')
 case atStart => exact ⟨0, rfl, ⟨by omega⟩, ⟨rfl⟩, by repeat (first | exact Drawn0.refl _ | apply Drawn0.step)⟩
 case round =>
  obtain ⟨j, rfl, hj, ha, hd⟩ := hrel
  obtain ⟨nd, rfl⟩ := hd
  cases gk with
  | zero =>
   have hjl := hj.out
   rw [Nat.add_zero] at hjl
   obtain rfl : r = true := by rw [HE.out, ha.out, List.drop_of_length_le (by omega)]; rfl
   have c1 : decide ((j : Int) < (l.length : Int)) = false := decide_eq_false (by omega)
   have c2 : decide (j < l.length) = false := decide_eq_false (by omega)
   clear hjl
   go_wp2
   go_ret
   exact ⟨rfl, by repeat (first | exact ⟨_, rfl⟩ | exact Drawn0.refl _ | apply Drawn0.step)⟩
  | succ k1 =>
   have hjl : j < l.length := by have := hj.out; omega
   obtain ⟨ad, e1, h0, h1, h2, h3⟩ := at_T86 HR.out (j : Int) (by omega) (by omega)
   subst e1
   rw [Int.toNat_natCast] at h0
   clear h1 h2 h3
   have hx : rd_T86 l (j : Int) = l[j] := by unfold rd_T86; rw [Int.toNat_natCast, List.getD_eq_getElem?_getD, List.getElem?_eq_getElem hjl]; rfl
   have hb := ha.out
   rw [List.drop_eq_getElem_cons hjl, List.any_cons] at hb
   rw [hx] at h0
   obtain ⟨b, hbb⟩ : ∃ b, b = l[j].f0 := ⟨_, rfl⟩
   rw [← hbb] at h0 hb
   have c1 : decide ((j : Int) < (l.length : Int)) = true := decide_eq_true (by omega)
   have c2 : decide (j < l.length) = true := decide_eq_true hjl
   have p1 := eq_true (show (0 : Int) ≤ (j : Int) by omega)
   have p2 := eq_true hjl
   have hw : Aside0 (wrap64 ((j : Int) + 1) = ((j + 1 : Nat) : Int)) := ⟨by have := HL.out; unfold wrap64; omega⟩
   have hj1 : Aside0 (j + 1 + k1 = l.length) := ⟨by have := hj.out; omega⟩
   have HB := Aside0.mk hb
   clear hx hb hbb hjl
   cases b with
   | true =>
    obtain rfl : r = false := by rw [HE.out, HB.out]; rfl
    go_wp2
    go_ret
    exact ⟨rfl, by repeat (first | exact ⟨_, rfl⟩ | exact Drawn0.refl _ | apply Drawn0.step)⟩
   | false =>
    have HB2 : Aside0 ((l.any fun x => x.f0) = ((l.drop (j + 1)).any fun x => x.f0)) := ⟨by rw [HB.out]; rfl⟩
    clear HB ha
    go_wp2
    go_roundg k1
    case measure => exact Nat.lt_succ_self _
    case rel => exact ⟨j + 1, by first | rfl | (show Value.int .i64 (wrap64 _) = _; rw [hw.out]), hj1, HB2, by repeat (first | exact ⟨_, rfl⟩ | exact Drawn0.refl _ | apply Drawn0.step)⟩
theorem rejoinderref03_fits.calls (a0 : Int) (A1 : Option Addr) (c1 : Nat) (l1 : List Rp) (r : Bool) (w : World) (hr1 : Kd.C k86 w A1 l1.length l1) (hc1 : l1.length ≤ c1) (h : rejoinderref03_fits.f a0 l1 = some r) :
  Calls Tryz.prog 57 #[.int .u8 a0, .slice A1 l1.length c1] w fun e w' => e = .returned (.bool r) ∧ Drawn0 w w' := by
 unfold rejoinderref03_fits.f at h
 by_cases k1 : a0 = 17 ∨ a0 = 18
 ·rw [if_pos k1] at h
  rcases l1 with _ | ⟨x, _ | ⟨y, l⟩⟩ <;> simp only at h
  ·cases h
  ·cases h
  ·obtain rfl := Option.some.inj h
   obtain ⟨ad, rfl, h0, _⟩ := rp_first hr1
   exact (rf_two a0 ad _ c1 x.f0 y.f0 w (by simp) h0 (rp_second hr1)).1 k1
 rw [if_neg k1] at h
 by_cases k2 : a0 = 21 ∨ a0 = 22
 ·rw [if_pos k2] at h
  rcases l1 with _ | ⟨x, _ | ⟨y, l⟩⟩ <;> simp only at h
  ·cases h
  ·cases h
  ·obtain rfl := Option.some.inj h
   obtain ⟨ad, rfl, h0, _⟩ := rp_first hr1
   exact (rf_two a0 ad _ c1 x.f0 y.f0 w (by simp) h0 (rp_second hr1)).2 k2
 rw [if_neg k2] at h
 by_cases k3 : a0 = 23
 ·rw [if_pos k3] at h
  rcases l1 with _ | ⟨x, l⟩ <;> simp only at h
  ·cases h
  ·obtain rfl := Option.some.inj h
   obtain ⟨ad, rfl, h0, h1⟩ := rp_first hr1
   rw [k3]
   exact (rf_one ad _ c1 x.f0 x.f1 w (by simp) h0 h1).1
 rw [if_neg k3] at h
 by_cases k4 : a0 = 19
 ·rw [if_pos k4] at h
  rcases l1 with _ | ⟨x, l⟩ <;> simp only at h
  ·cases h
  ·obtain rfl := Option.some.inj h
   obtain ⟨ad, rfl, h0, h1⟩ := rp_first hr1
   rw [k4]
   exact (rf_one ad _ c1 x.f0 x.f1 w (by simp) h0 h1).2
 rw [if_neg k4] at h
 split at h
 case isFalse => cases h
 case isTrue hl =>
  obtain rfl := Option.some.inj h
  exact rf_else a0 A1 c1 l1 _ rfl w hr1 hl (fun e => k1 (.inl e)) (fun e => k1 (.inr e)) (fun e => k2 (.inl e)) (fun e => k2 (.inr e)) k3 k4
def rejoinderref06_strength.f (a0 : Int) : Option Int := some (if a0 = 14 ∨ a0 = 21 then 1 else if a0 = 13 ∨ a0 = 22 then 2 else if a0 = 12 ∨ a0 = 23 then 3 else if a0 = 11 ∨ a0 = 19 ∨ a0 = 20 then 4 else if a0 = 15 ∨ a0 = 16 then 5 else if a0 = 6 ∨ a0 = 7 ∨ a0 = 8 ∨ a0 = 9 ∨ a0 = 10 ∨ a0 = 17 ∨ a0 = 18 then 6 else 7)
set_option maxHeartbeats 4000000 in
theorem rejoinderref06_strength.calls (a0 : Int) (r : Int) (w : World) (h : rejoinderref06_strength.f a0 = some r) :
  Calls Tryz.prog 34 #[.int .u8 a0] w fun e w' => e = .returned (.int .i64 r) ∧ Drawn0 w w' := by
 have hc : a0 = 6 ∨ a0 = 7 ∨ a0 = 8 ∨ a0 = 9 ∨ a0 = 10 ∨ a0 = 11 ∨ a0 = 12 ∨ a0 = 13 ∨ a0 = 14 ∨ a0 = 15 ∨ a0 = 16 ∨ a0 = 17 ∨ a0 = 18 ∨ a0 = 19 ∨ a0 = 20 ∨ a0 = 21 ∨ a0 = 22 ∨ a0 = 23 ∨ (a0 ≠ 6 ∧ a0 ≠ 7 ∧ a0 ≠ 8 ∧ a0 ≠ 9 ∧ a0 ≠ 10 ∧ a0 ≠ 11 ∧ a0 ≠ 12 ∧ a0 ≠ 13 ∧ a0 ≠ 14 ∧ a0 ≠ 15 ∧ a0 ≠ 16 ∧ a0 ≠ 17 ∧ a0 ≠ 18 ∧ a0 ≠ 19 ∧ a0 ≠ 20 ∧ a0 ≠ 21 ∧ a0 ≠ 22 ∧ a0 ≠ 23) := by omega
 obtain rfl := Option.some.inj h
 clear h
 rcases hc with rfl | rfl | rfl | rfl | rfl | rfl | rfl | rfl | rfl | rfl | rfl | rfl | rfl | rfl | rfl | rfl | rfl | rfl | ⟨h6, h7, h8, h9, h10, h11, h12, h13, h14, h15, h16, h17, h18, h19, h20, h21, h22, h23⟩
 rotate_right
 ·rw [if_neg (by omega), if_neg (by omega), if_neg (by omega), if_neg (by omega), if_neg (by omega), if_neg (by omega)]
  replace h6 : (a0 == 6) = false := beq_eq_false_iff_ne.2 h6
  replace h7 : (a0 == 7) = false := beq_eq_false_iff_ne.2 h7
  replace h8 : (a0 == 8) = false := beq_eq_false_iff_ne.2 h8
  replace h9 : (a0 == 9) = false := beq_eq_false_iff_ne.2 h9
  replace h10 : (a0 == 10) = false := beq_eq_false_iff_ne.2 h10
  replace h11 : (a0 == 11) = false := beq_eq_false_iff_ne.2 h11
  replace h12 : (a0 == 12) = false := beq_eq_false_iff_ne.2 h12
  replace h13 : (a0 == 13) = false := beq_eq_false_iff_ne.2 h13
  replace h14 : (a0 == 14) = false := beq_eq_false_iff_ne.2 h14
  replace h15 : (a0 == 15) = false := beq_eq_false_iff_ne.2 h15
  replace h16 : (a0 == 16) = false := beq_eq_false_iff_ne.2 h16
  replace h17 : (a0 == 17) = false := beq_eq_false_iff_ne.2 h17
  replace h18 : (a0 == 18) = false := beq_eq_false_iff_ne.2 h18
  replace h19 : (a0 == 19) = false := beq_eq_false_iff_ne.2 h19
  replace h20 : (a0 == 20) = false := beq_eq_false_iff_ne.2 h20
  replace h21 : (a0 == 21) = false := beq_eq_false_iff_ne.2 h21
  replace h22 : (a0 == 22) = false := beq_eq_false_iff_ne.2 h22
  replace h23 : (a0 == 23) = false := beq_eq_false_iff_ne.2 h23
  go_enter Tryz.func34, Tryz.ntmps34
  go_wp2
  go_ret
  exact ⟨rfl, by repeat (first | exact Drawn0.refl _ | apply Drawn0.step)⟩
 all_goals
  go_enter Tryz.func34, Tryz.ntmps34
  go_wp2
  go_ret
  exact ⟨rfl, by repeat (first | exact Drawn0.refl _ | apply Drawn0.step)⟩
def rejoinderref06_ahead.f (a0 : Int) : Option ByteArray := some (if a0 = 6 then (⟨#[33]⟩ : ByteArray) else if a0 = 7 then (⟨#[88, 32]⟩ : ByteArray) else if a0 = 8 then (⟨#[78, 32]⟩ : ByteArray) else if a0 = 9 then (⟨#[70, 32]⟩ : ByteArray) else if a0 = 10 then (⟨#[71, 32]⟩ : ByteArray) else (⟨#[63]⟩ : ByteArray))
set_option maxHeartbeats 4000000 in
theorem rejoinderref06_ahead.calls (a0 : Int) (r : ByteArray) (w : World) (h : rejoinderref06_ahead.f a0 = some r) :
  Calls Tryz.prog 42 #[.int .u8 a0] w fun e w' => e = .returned (.string r) ∧ Drawn0 w w' := by
 have hc : a0 = 6 ∨ a0 = 7 ∨ a0 = 8 ∨ a0 = 9 ∨ a0 = 10 ∨ (a0 ≠ 6 ∧ a0 ≠ 7 ∧ a0 ≠ 8 ∧ a0 ≠ 9 ∧ a0 ≠ 10) := by omega
 obtain rfl := Option.some.inj h
 clear h
 rcases hc with rfl | rfl | rfl | rfl | rfl | ⟨h6, h7, h8, h9, h10⟩
 rotate_right
 ·rw [if_neg (by omega), if_neg (by omega), if_neg (by omega), if_neg (by omega), if_neg (by omega)]
  replace h6 : (a0 == 6) = false := beq_eq_false_iff_ne.2 h6
  replace h7 : (a0 == 7) = false := beq_eq_false_iff_ne.2 h7
  replace h8 : (a0 == 8) = false := beq_eq_false_iff_ne.2 h8
  replace h9 : (a0 == 9) = false := beq_eq_false_iff_ne.2 h9
  replace h10 : (a0 == 10) = false := beq_eq_false_iff_ne.2 h10
  go_enter Tryz.func42, Tryz.ntmps42
  go_wp2
  go_ret
  exact ⟨rfl, by repeat (first | exact Drawn0.refl _ | apply Drawn0.step)⟩
 all_goals
  go_enter Tryz.func42, Tryz.ntmps42
  go_wp2
  go_ret
  exact ⟨rfl, by repeat (first | exact Drawn0.refl _ | apply Drawn0.step)⟩
def rejoinderref06_word.f (a0 : Int) : Option ByteArray := some (if a0 = 14 then (⟨#[32, 60, 45, 62, 32]⟩ : ByteArray) else if a0 = 13 then (⟨#[32, 45, 62, 32]⟩ : ByteArray) else if a0 = 12 then (⟨#[32, 124, 32]⟩ : ByteArray) else if a0 = 11 then (⟨#[32, 38, 32]⟩ : ByteArray) else if a0 = 15 then (⟨#[32, 85, 32]⟩ : ByteArray) else if a0 = 16 then (⟨#[32, 82, 32]⟩ : ByteArray) else if a0 = 21 then (⟨#[32, 43, 32]⟩ : ByteArray) else (⟨#[32, 59, 32]⟩ : ByteArray))
set_option maxHeartbeats 4000000 in
theorem rejoinderref06_word.calls (a0 : Int) (r : ByteArray) (w : World) (h : rejoinderref06_word.f a0 = some r) :
  Calls Tryz.prog 44 #[.int .u8 a0] w fun e w' => e = .returned (.string r) ∧ Drawn0 w w' := by
 have hc : a0 = 11 ∨ a0 = 12 ∨ a0 = 13 ∨ a0 = 14 ∨ a0 = 15 ∨ a0 = 16 ∨ a0 = 21 ∨ (a0 ≠ 11 ∧ a0 ≠ 12 ∧ a0 ≠ 13 ∧ a0 ≠ 14 ∧ a0 ≠ 15 ∧ a0 ≠ 16 ∧ a0 ≠ 21) := by omega
 obtain rfl := Option.some.inj h
 clear h
 rcases hc with rfl | rfl | rfl | rfl | rfl | rfl | rfl | ⟨h11, h12, h13, h14, h15, h16, h21⟩
 rotate_right
 ·rw [if_neg (by omega), if_neg (by omega), if_neg (by omega), if_neg (by omega), if_neg (by omega), if_neg (by omega), if_neg (by omega)]
  replace h11 : (a0 == 11) = false := beq_eq_false_iff_ne.2 h11
  replace h12 : (a0 == 12) = false := beq_eq_false_iff_ne.2 h12
  replace h13 : (a0 == 13) = false := beq_eq_false_iff_ne.2 h13
  replace h14 : (a0 == 14) = false := beq_eq_false_iff_ne.2 h14
  replace h15 : (a0 == 15) = false := beq_eq_false_iff_ne.2 h15
  replace h16 : (a0 == 16) = false := beq_eq_false_iff_ne.2 h16
  replace h21 : (a0 == 21) = false := beq_eq_false_iff_ne.2 h21
  go_enter Tryz.func44, Tryz.ntmps44
  go_wp2
  go_ret
  exact ⟨rfl, by repeat (first | exact Drawn0.refl _ | apply Drawn0.step)⟩
 all_goals
  go_enter Tryz.func44, Tryz.ntmps44
  go_wp2
  go_ret
  exact ⟨rfl, by repeat (first | exact Drawn0.refl _ | apply Drawn0.step)⟩
def rejoinderref03_plain.f (a0 : Int) : Option Bool := some (if a0 = 0 ∨ a0 = 1 ∨ a0 = 2 ∨ a0 = 6 ∨ a0 = 11 ∨ a0 = 12 ∨ a0 = 13 ∨ a0 = 14 then true else false)
set_option maxHeartbeats 4000000 in
theorem rejoinderref03_plain.calls (a0 : Int) (r : Bool) (w : World) (h : rejoinderref03_plain.f a0 = some r) :
  Calls Tryz.prog 74 #[.int .u8 a0] w fun e w' => e = .returned (.bool r) ∧ Drawn0 w w' := by
 have hc : a0 = 0 ∨ a0 = 1 ∨ a0 = 2 ∨ a0 = 6 ∨ a0 = 11 ∨ a0 = 12 ∨ a0 = 13 ∨ a0 = 14 ∨ (a0 ≠ 0 ∧ a0 ≠ 1 ∧ a0 ≠ 2 ∧ a0 ≠ 6 ∧ a0 ≠ 11 ∧ a0 ≠ 12 ∧ a0 ≠ 13 ∧ a0 ≠ 14) := by omega
 obtain rfl := Option.some.inj h
 clear h
 rcases hc with rfl | rfl | rfl | rfl | rfl | rfl | rfl | rfl | ⟨h0, h1, h2, h6, h11, h12, h13, h14⟩
 rotate_right
 ·rw [if_neg (by omega)]
  replace h0 : (a0 == 0) = false := beq_eq_false_iff_ne.2 h0
  replace h1 : (a0 == 1) = false := beq_eq_false_iff_ne.2 h1
  replace h2 : (a0 == 2) = false := beq_eq_false_iff_ne.2 h2
  replace h6 : (a0 == 6) = false := beq_eq_false_iff_ne.2 h6
  replace h11 : (a0 == 11) = false := beq_eq_false_iff_ne.2 h11
  replace h12 : (a0 == 12) = false := beq_eq_false_iff_ne.2 h12
  replace h13 : (a0 == 13) = false := beq_eq_false_iff_ne.2 h13
  replace h14 : (a0 == 14) = false := beq_eq_false_iff_ne.2 h14
  go_enter Tryz.func74, Tryz.ntmps74
  go_wp2
  go_ret
  exact ⟨rfl, by repeat (first | exact Drawn0.refl _ | apply Drawn0.step)⟩
 all_goals
  go_enter Tryz.func74, Tryz.ntmps74
  go_wp2
  go_ret
  exact ⟨rfl, by repeat (first | exact Drawn0.refl _ | apply Drawn0.step)⟩
end Go.Proofs.YtaogoabnidbbpaaGreatDoor.PText
