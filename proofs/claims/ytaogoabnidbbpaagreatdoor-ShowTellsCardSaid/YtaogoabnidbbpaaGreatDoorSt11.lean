/- Texts of this work merged into one file, what the law does not need left out: TextFields; PTextx4; TextLex. Conditions stand in each law. -/
import Derived.Lib.SmallJoins
import Derived.Test.YtaogoabnidbbpaaGreatDoorSt7
import Derived.Test.YtaogoabnidbbpaaGreatDoorSt10
namespace Go.Proofs.YtaogoabnidbbpaaGreatDoor.PText
open Go.RowKit Go.Proofs.YtaogoabnidbbpaaGreatDoorW.PrintWords Go.Proofs.YtaogoabnidbbpaaGreatDoorW.PrintLast Go.Proofs.YtaogoabnidbbpaaGreatDoorW.PrintMore
set_option linter.unusedVariables false
set_option linter.unusedSimpArgs false
/-- The table of ASCII blanks is as its initialiser lays it. -/
def Laid (w : World) : Prop := Lib.TabIs Tryz.prog w "strings.asciiSpace" .u8 Lib.asciiSpaceTab
theorem Laid.later {w w' : World} (h : Laid w) (hb : Below w.heap.size w w') : Laid w' := Go.Joins.tab_stays (g := 0) (by kernel_rfl) h hb (Nat.le_refl _)
def bytesB (l : List UInt8) : ByteArray := ⟨l.toArray⟩
def isAscii (s : ByteArray) : Bool := s.data.toList.all fun b => decide (b.toNat < 128)
def strings_Fields.f (s : ByteArray) : Option (List ByteArray) := if s.size < 4294967281 then (if isAscii s = true then some ((Lib.fields s.data.toList).map bytesB) else none) else none
theorem strs_R {e : Nat} (w : World) (xs : List ByteArray) (hm : xs.length ≤ 9223372036854775807) : Kd.R Kd.string e (w.alloc (.cells (xs.map Value.string).toArray e)) w.heap.size (fun _ => True) (.slice (some ⟨w.heap.size, 0, none⟩) xs.length xs.length) xs := by
 have hown := World.ownsRow_lit (base := w.heap.size) (e := e) (size := 1) w (xs.map Value.string).toArray xs.length (Nat.le_refl _) (by simpa [maxLen] using hm) (by simp)
 refine ⟨fun _ _ => trivial, (xs.map Value.string), by have hs : Kd.string.sz = 1 := rfl; rw [hs]; simpa using hown, by simp [Kd.string, Kd.scalar], fun j p hj => ?_⟩
 obtain ⟨hl, rfl⟩ := List.getElem?_eq_some_iff.1 hj
 have hs : Kd.string.sz = 1 := rfl
 rw [hs, Nat.mul_one, List.drop_eq_getElem_cons (by simpa using hl)]
 show _ = _
 simp
theorem fieldsGo_len : ∀ (l cur : List UInt8), (Lib.fieldsGo cur l).length ≤ l.length + 1
 | [], cur => by unfold Lib.fieldsGo; split <;> simp
 | b :: l, cur => by
  unfold Lib.fieldsGo
  have h0 := fieldsGo_len l []
  have h1 := fieldsGo_len l (cur ++ [b])
  split
  ·split
   ·simp only [List.length_cons]; omega
   ·simp only [List.length_cons]; omega
  ·simp only [List.length_cons]; omega
theorem fields_len (l : List UInt8) : (Lib.fields l).length ≤ l.length + 1 := fieldsGo_len l []
theorem strings_Fields.calls (s : ByteArray) (r : List ByteArray) (w : World) (h : strings_Fields.f s = some r) (HT : Aside0 (Laid w) := by exact ⟨Laid.later HT.out (by repeat (first | (with_reducible first | exact HB.out | apply below_alloc | apply pw_below_drewN | apply below_drew1) | exact HB.out))⟩) :
  Calls Tryz.prog 76 #[.string s] w fun e w' => ∃ v0_ : Value, e = .returned (v0_) ∧ Kd.R Kd.string 9 w' w.heap.size (fun _ => True) v0_ r ∧ Below w.heap.size w w' := by
 unfold strings_Fields.f at h
 by_cases h1 : s.size < 4294967281
 ·rw [if_pos h1] at h
  by_cases h2 : isAscii s = true
  ·rw [if_pos h2] at h
   obtain rfl := Option.some.inj h
   have hasc : ∀ (j : Nat) b, s.data.toList[j]? = some b → b.toNat < 128 := by
    intro j b hj
    have := List.all_eq_true.1 h2 b (List.mem_of_getElem? hj)
    exact of_decide_eq_true this
   refine (Tryz.strings_Fields s w h1 hasc HT.out).mono ?_
   rintro e w' ⟨rfl, rfl⟩
   refine ⟨_, rfl, ?_, below_alloc (Below.refl _ _) _⟩
   have hlen : (Lib.fields s.data.toList).length ≤ 9223372036854775807 := by
    have := fields_len s.data.toList
    have h3 : s.data.toList.length = s.size := by rw [Array.length_toList]; rfl
    omega
   have := strs_R (e := 9) w ((Lib.fields s.data.toList).map bytesB) (by rw [List.length_map]; exact hlen)
   rw [List.length_map, List.map_map] at this
   exact this
  ·rw [if_neg h2] at h; cases h
 ·rw [if_neg h1] at h; cases h
end Go.Proofs.YtaogoabnidbbpaaGreatDoor.PText
namespace Go.Proofs.YtaogoabnidbbpaaGreatDoor.PText
open Go.RowKit Go.Proofs.YtaogoabnidbbpaaGreatDoorW.PrintWords Go.Proofs.YtaogoabnidbbpaaGreatDoorW.PrintLast Go.Proofs.YtaogoabnidbbpaaGreatDoorW.PrintMore
set_option linter.unusedVariables false
set_option linter.unusedSimpArgs false
attribute [local go_sem] max2_int min2_int max_two min_two max_three min_three max_four min_four
def lexis_in.l0 : Nat → ByteArray → List ByteArray → Int → Int → Option (Bool)
 | 0, _, _, _, _ => none
 | k + 1, x1, x8, x9, x10 => if x10 < x9 then (if 0 ≤ x10 then (if x10 < (x8.length : Int) then (if (rdOf ByteArray.empty x8 x10).toList = x1.toList then (some true) else (lexis_in.l0 k x1 x8 x9 (wrap64 (x10 + 1)))) else (none)) else (none)) else (some false)
def lexis_in.f (k : Nat) (a0 : ByteArray) (a1 : ByteArray) : Option (Bool) := (strings_Fields.f a0).bind fun t264 => (lexis_in.l0 k a1 t264 (t264.length : Int) 0)
theorem lexis_in.mono_l : ∀ k, (∀ y0 y1 y2 y3, LeO (lexis_in.l0 k y0 y1 y2 y3) (lexis_in.l0 (k + 1) y0 y1 y2 y3))
 | 0 => fun _ _ _ _ r h => by simp [lexis_in.l0] at h
 | k + 1 => by
  have ih0 := lexis_in.mono_l k
  ·intro y0 y1 y2 y3
   unfold lexis_in.l0
   repeat' first
   | (with_reducible exact ih0 _ _ _ _)
   | (with_reducible exact LeO.refl _)
   | (with_reducible exact LeO.none _)
   | (with_reducible refine LeO.ite ?_ ?_)
   | (with_reducible refine LeO.bind ?_ (fun _ => ?_))
   | exact ih0 _ _ _ _
   | exact LeO.none _
   | refine LeO.ite ?_ ?_
   | refine LeO.bind ?_ (fun _ => ?_)
theorem lexis_in.mono : ∀ a0 a1 k, LeO (lexis_in.f k a0 a1) (lexis_in.f (k + 1) a0 a1) := by
 intro a0 a1 k
 have ih0 := lexis_in.mono_l k
 unfold lexis_in.f
 repeat' first
   | (with_reducible exact ih0 _ _ _ _)
   | (with_reducible exact LeO.refl _)
   | (with_reducible exact LeO.none _)
   | (with_reducible refine LeO.ite ?_ ?_)
   | (with_reducible refine LeO.bind ?_ (fun _ => ?_))
   | exact ih0 _ _ _ _
   | exact LeO.none _
   | refine LeO.ite ?_ ?_
   | refine LeO.bind ?_ (fun _ => ?_)
set_option maxHeartbeats 8000000 in
set_option maxRecDepth 100000 in
theorem lexis_in.calls (k : Nat) (a0 : ByteArray) (a1 : ByteArray) (r : Bool) (w : World) (h : lexis_in.f k a0 a1 = some r) (HT : Aside0 (Laid w) := by exact ⟨Laid.later HT.out (by repeat (first | (with_reducible first | exact HB.out | apply below_alloc | apply pw_below_drewN | apply below_drew1) | exact HB.out))⟩) :
  Calls Tryz.prog 78 #[.string a0, .string a1] w fun e w' => e = .returned (.bool r) ∧ Below w.heap.size w w' := by
 have HB := Aside0.mk (Below.refl w.heap.size w)
 have H : ((strings_Fields.f a0).bind fun t264 => (lexis_in.l0 k a1 t264 (t264.length : Int) 0)) = some r := h
 clear h
 replace H := Option.bind_eq_some_iff.mp H
 obtain ⟨t264, A30, H⟩ := H
 replace H : (lexis_in.l0 k a1 t264 (t264.length : Int) 0) = some r := H
 have A3 := Aside0.mk A30
 clear A30
 have H' := Aside0.mk H
 clear H
 go_enter Tryz.func78, Tryz.ntmps78
 go_wp2_with (first | ((with_reducible refine gate_callee (f := 76) rfl ?_); refine goesL_ (some 8) rfl rfl Tryz.func76 (by kernel_rfl) rfl #[.string a0] rfl (by (try simp only [List.map_toArray, List.map_cons, List.map_nil]); first | done | rfl | (simp only [List.length_drop, List.length_take]; rfl)) ?_; (with_reducible refine (strings_Fields.calls a0 t264 _ A3.out).mono ?_); rintro e w4 ⟨v265, rfl, ho0, hb⟩; refine ⟨_, rfl, ?_⟩; have n0_ := Aside0.mk (Kd.R_lower ho0 (below_size (by repeat (first | (with_reducible first | exact HB.out | apply below_alloc | apply pw_below_drewN | apply below_drew1) | exact HB.out)))); have n1_ := Aside0.mk (below_step (by repeat (first | (with_reducible first | exact HB.out | apply below_alloc | apply pw_below_drewN | apply below_drew1) | exact HB.out)) hb); clear HB; have HO266 := n0_; have HB := n1_; clear n0_ n1_; (try clear hb); (try clear hb2); (try clear hk); (try clear hi); (try clear ho0); obtain ⟨Ao5, co5, eo5⟩ := Kd.R_slice HO266.out; subst eo5))
 go_loopg [10] k (fun kq v10 w' => ∃ (x10_1 : Int), v10 = .int .i64 x10_1 ∧ Aside0 (lexis_in.l0 kq a1 t264 (t264.length : Int) x10_1 = some r) ∧ Aside0 (kq ≤ k) ∧ Aside0 (Kd.R Kd.string 9 w' w.heap.size (fun _ => True) (.slice Ao5 t264.length co5) t264) ∧ Aside0 (Below w.heap.size w w'))
 case atStart => exact ⟨(0), (by first | rfl | (simp; done) | (simp [*]; done)), H', ⟨Nat.le_refl _⟩, ⟨by (with_reducible repeat (first | apply Kd.R_alloc | apply Kd.R_drewN | apply Kd.R_drew)); exact HO266.out⟩, ⟨by repeat (first | (with_reducible first | exact HB.out | apply below_alloc | apply pw_below_drewN | apply below_drew1) | exact HB.out)⟩⟩
 case round =>
  clear H'
  try clear p2
  obtain ⟨x10_1, rfl, HA, HK1, HO_8, HB⟩ := hrel
  cases gk with
  | zero => exact absurd HA.out (by simp [lexis_in.l0])
  | succ k1 =>
   have H := HA.out
   clear HA
   simp only [lexis_in.l0] at H
   by_cases c6 : x10_1 < (t264.length : Int)
   ·rw [if_pos c6] at H
    have c6b0 : decide (x10_1 < (t264.length : Int)) = true := decide_eq_true c6
    clear c6
    by_cases c7 : 0 ≤ x10_1
    ·rw [if_pos c7] at H
     have c7b0 : decide (0 ≤ x10_1) = true := decide_eq_true c7
     clear c7
     by_cases c8 : x10_1 < (t264.length : Int)
     ·rw [if_pos c8] at H
      have c8b0 : decide (x10_1 < (t264.length : Int)) = true := decide_eq_true c8
      clear c8
      by_cases c9 : (rdOf ByteArray.empty t264 x10_1).toList = a1.toList
      ·rw [if_pos c9] at H
       have c9b0 : ((rdOf ByteArray.empty t264 x10_1).toList == a1.toList) = true := beq_iff_eq.mpr c9
       have c9b1 : ((rdOf ByteArray.empty t264 x10_1).toList != a1.toList) = false := bne_eq_false_iff_eq.mpr c9
       clear c9
       obtain rfl := Option.some.inj H
       have p267 : 0 ≤ (x10_1 : Int) := of_decide_eq_true (by first | (with_reducible assumption) | assumption)
       have q267 : x10_1 < (t264.length : Int) := of_decide_eq_true (by first | (with_reducible assumption) | assumption)
       obtain ⟨ad267, e267, hx267_0⟩ := Kd.at_string (Kd.R_reads' HO_8.out).2.2 x10_1 p267 q267
       cases e267
       replace p267 := eq_true p267
       replace q267 := eq_true q267
       go_wp2
       go_ret
       exact ⟨by first | rfl | (simp [errW_none, errW_some] <;> rfl) | (simp [*, errW_none, errW_some] <;> rfl), by repeat (first | (with_reducible first | exact HB.out | apply below_alloc | apply pw_below_drewN | apply below_drew1) | exact HB.out)⟩
      ·rw [if_neg c9] at H
       have c9b0 : ((rdOf ByteArray.empty t264 x10_1).toList == a1.toList) = false := beq_eq_false_iff_ne.mpr c9
       have c9b1 : ((rdOf ByteArray.empty t264 x10_1).toList != a1.toList) = true := bne_iff_ne.mpr c9
       have H' := Aside0.mk H
       clear H
       have p267 : 0 ≤ (x10_1 : Int) := of_decide_eq_true (by first | (with_reducible assumption) | assumption)
       have q267 : x10_1 < (t264.length : Int) := of_decide_eq_true (by first | (with_reducible assumption) | assumption)
       obtain ⟨ad267, e267, hx267_0⟩ := Kd.at_string (Kd.R_reads' HO_8.out).2.2 x10_1 p267 q267
       cases e267
       replace p267 := eq_true p267
       replace q267 := eq_true q267
       go_wp2
       go_roundg k1
       case measure => have := HK1.out; omega
       case rel => exact ⟨(wrap64 (x10_1 + 1)), (by first | rfl | (simp; done) | (simp [*]; done)), H', ⟨by have := HK1.out; omega⟩, ⟨by (with_reducible repeat (first | apply Kd.R_alloc | apply Kd.R_drewN | apply Kd.R_drew)); exact HO_8.out⟩, ⟨by repeat (first | (with_reducible first | exact HB.out | apply below_alloc | apply pw_below_drewN | apply below_drew1) | exact HB.out)⟩⟩
     ·rw [if_neg c8] at H
      exact absurd H (by simp)
    ·rw [if_neg c7] at H
     exact absurd H (by simp)
   ·rw [if_neg c6] at H
    have c6b0 : decide (x10_1 < (t264.length : Int)) = false := decide_eq_false c6
    clear c6
    obtain rfl := Option.some.inj H
    go_wp2
    go_ret
    exact ⟨by first | rfl | (simp [errW_none, errW_some] <;> rfl) | (simp [*, errW_none, errW_some] <;> rfl), by repeat (first | (with_reducible first | exact HB.out | apply below_alloc | apply pw_below_drewN | apply below_drew1) | exact HB.out)⟩
mutual
def letter_Name.j0 : Nat → ByteArray → Bool → Option (Bool)
 | 0, _, _ => none
 | k + 1, x0, x24 => if x24 = true then (some false) else (letter_Name.l0 k x0 (x0.size : Int) 0)
def letter_Name.l0 : Nat → ByteArray → Int → Int → Option (Bool)
 | 0, _, _, _ => none
 | k + 1, x0, x26, x27 => if x27 < x26 then (if 0 ≤ x27 then (if x27 < (x0.size : Int) then (if (bt x0 x27) < 97 then (if x27 = 0 then (some false) else (if (bt x0 x27) < 48 then (some false) else (if (bt x0 x27) > 57 then (some false) else (letter_Name.l0 k x0 x26 (wrap64 (x27 + 1)))))) else (if (bt x0 x27) > 122 then (if x27 = 0 then (some false) else (if (bt x0 x27) < 48 then (some false) else (if (bt x0 x27) > 57 then (some false) else (letter_Name.l0 k x0 x26 (wrap64 (x27 + 1)))))) else (letter_Name.l0 k x0 x26 (wrap64 (x27 + 1))))) else (none)) else (none)) else (some true)
end
def letter_Name.f (k : Nat) (a0 : ByteArray) : Option (Bool) := if (a0.size : Int) < 1 then (letter_Name.j0 k a0 true) else (if (a0.size : Int) > 20 then (letter_Name.j0 k a0 true) else (if a0.toList = ([116, 114, 117, 101] : List UInt8) then (letter_Name.j0 k a0 true) else (if a0.toList = ([102, 97, 108, 115, 101] : List UInt8) then (letter_Name.j0 k a0 true) else (letter_Name.j0 k a0 (a0.toList == ([108, 97, 115, 116] : List UInt8))))))
theorem letter_Name.mono_l : ∀ k, (∀ y0 y1, LeO (letter_Name.j0 k y0 y1) (letter_Name.j0 (k + 1) y0 y1)) ∧ (∀ y0 y1 y2, LeO (letter_Name.l0 k y0 y1 y2) (letter_Name.l0 (k + 1) y0 y1 y2))
 | 0 => ⟨fun _ _ r h => by simp [letter_Name.j0] at h, fun _ _ _ r h => by simp [letter_Name.l0] at h⟩
 | k + 1 => by
  obtain ⟨ih0, ih1⟩ := letter_Name.mono_l k
  refine ⟨?_, ?_⟩
  ·intro y0 y1
   unfold letter_Name.j0
   repeat' first
   | (with_reducible exact ih0 _ _)
   | (with_reducible exact ih1 _ _ _)
   | (with_reducible exact LeO.refl _)
   | (with_reducible exact LeO.none _)
   | (with_reducible refine LeO.ite ?_ ?_)
   | (with_reducible refine LeO.bind ?_ (fun _ => ?_))
   | exact ih0 _ _
   | exact ih1 _ _ _
   | exact LeO.none _
   | refine LeO.ite ?_ ?_
   | refine LeO.bind ?_ (fun _ => ?_)
  ·intro y0 y1 y2
   unfold letter_Name.l0
   repeat' first
   | (with_reducible exact ih0 _ _)
   | (with_reducible exact ih1 _ _ _)
   | (with_reducible exact LeO.refl _)
   | (with_reducible exact LeO.none _)
   | (with_reducible refine LeO.ite ?_ ?_)
   | (with_reducible refine LeO.bind ?_ (fun _ => ?_))
   | exact ih0 _ _
   | exact ih1 _ _ _
   | exact LeO.none _
   | refine LeO.ite ?_ ?_
   | refine LeO.bind ?_ (fun _ => ?_)
theorem letter_Name.mono : ∀ a0 k, LeO (letter_Name.f k a0) (letter_Name.f (k + 1) a0) := by
 intro a0 k
 obtain ⟨ih0, ih1⟩ := letter_Name.mono_l k
 unfold letter_Name.f
 repeat' first
   | (with_reducible exact ih0 _ _)
   | (with_reducible exact ih1 _ _ _)
   | (with_reducible exact LeO.refl _)
   | (with_reducible exact LeO.none _)
   | (with_reducible refine LeO.ite ?_ ?_)
   | (with_reducible refine LeO.bind ?_ (fun _ => ?_))
   | exact ih0 _ _
   | exact ih1 _ _ _
   | exact LeO.none _
   | refine LeO.ite ?_ ?_
   | refine LeO.bind ?_ (fun _ => ?_)
set_option maxHeartbeats 8000000 in
set_option maxRecDepth 100000 in
theorem letter_Name.calls (k : Nat) (a0 : ByteArray) (r : Bool) (w : World) (h : letter_Name.f k a0 = some r) :
  Calls Tryz.prog 24 #[.string a0] w fun e w' => e = .returned (.bool r) ∧ Drawn0 w w' := by
 have H : (if (a0.size : Int) < 1 then (letter_Name.j0 k a0 true) else (if (a0.size : Int) > 20 then (letter_Name.j0 k a0 true) else (if a0.toList = ([116, 114, 117, 101] : List UInt8) then (letter_Name.j0 k a0 true) else (if a0.toList = ([102, 97, 108, 115, 101] : List UInt8) then (letter_Name.j0 k a0 true) else (letter_Name.j0 k a0 (a0.toList == ([108, 97, 115, 116] : List UInt8))))))) = some r := h
 clear h
 have HC2 := Aside0.mk H
 clear H
 go_enter Tryz.func24, Tryz.ntmps24
 go_upto_region 1 with (fail)
 go_cut [24] (fun v24 wc => ∃ (kq : Nat) (x24_1 : Bool), v24 = .bool x24_1 ∧ Aside0 (letter_Name.j0 kq a0 x24_1 = some r) ∧ Aside0 (kq ≤ k) ∧ Drawn0 w wc)
 case first =>
  have H := HC2.out
  clear HC2
  by_cases c3 : (a0.size : Int) < 1
  ·rw [if_pos c3] at H
   have c3b0 : decide ((a0.size : Int) < 1) = true := decide_eq_true c3
   have c3b1 : decide (a0.size < 1) = true := decide_eq_true (by omega)
   clear c3
   (first | rw [c3b0] | (simp only [i64_w, i32_w]; rw [c3b0]) | skip)
   have H' := Aside0.mk H
   clear H
   go_wp2
   go_meet
   case rel => exact ⟨_, (true), (by first | rfl | (simp; done) | (simp [*]; done)), H', ⟨by first | omega | exact Nat.le_refl _⟩, by repeat (first | exact Drawn0.refl _ | apply Drawn0.step)⟩
  ·rw [if_neg c3] at H
   have c3b0 : decide ((a0.size : Int) < 1) = false := decide_eq_false c3
   have c3b1 : decide (a0.size < 1) = false := decide_eq_false (by omega)
   clear c3
   (first | rw [c3b0] | (simp only [i64_w, i32_w]; rw [c3b0]) | skip)
   by_cases c4 : (a0.size : Int) > 20
   ·rw [if_pos c4] at H
    have c4b0 : decide (20 < (a0.size : Int)) = true := decide_eq_true c4
    have c4b1 : decide (20 < a0.size) = true := decide_eq_true (by omega)
    clear c4
    have H' := Aside0.mk H
    clear H
    go_wp2
    go_meet
    case rel => exact ⟨_, (true), (by first | rfl | (simp; done) | (simp [*]; done)), H', ⟨by first | omega | exact Nat.le_refl _⟩, by repeat (first | exact Drawn0.refl _ | apply Drawn0.step)⟩
   ·rw [if_neg c4] at H
    have c4b0 : decide (20 < (a0.size : Int)) = false := decide_eq_false c4
    have c4b1 : decide (20 < a0.size) = false := decide_eq_false (by omega)
    clear c4
    by_cases c5 : a0.toList = ([116, 114, 117, 101] : List UInt8)
    ·rw [if_pos c5] at H
     have c5b0 : (a0.toList == ([116, 114, 117, 101] : List UInt8)) = true := beq_iff_eq.mpr c5
     have c5b1 : (a0.toList != ([116, 114, 117, 101] : List UInt8)) = false := bne_eq_false_iff_eq.mpr c5
     clear c5
     have H' := Aside0.mk H
     clear H
     go_wp2
     go_meet
     case rel => exact ⟨_, (true), (by first | rfl | (simp; done) | (simp [*]; done)), H', ⟨by first | omega | exact Nat.le_refl _⟩, by repeat (first | exact Drawn0.refl _ | apply Drawn0.step)⟩
    ·rw [if_neg c5] at H
     have c5b0 : (a0.toList == ([116, 114, 117, 101] : List UInt8)) = false := beq_eq_false_iff_ne.mpr c5
     have c5b1 : (a0.toList != ([116, 114, 117, 101] : List UInt8)) = true := bne_iff_ne.mpr c5
     by_cases c6 : a0.toList = ([102, 97, 108, 115, 101] : List UInt8)
     ·rw [if_pos c6] at H
      have c6b0 : (a0.toList == ([102, 97, 108, 115, 101] : List UInt8)) = true := beq_iff_eq.mpr c6
      have c6b1 : (a0.toList != ([102, 97, 108, 115, 101] : List UInt8)) = false := bne_eq_false_iff_eq.mpr c6
      clear c6
      have H' := Aside0.mk H
      clear H
      go_wp2
      go_meet
      case rel => exact ⟨_, (true), (by first | rfl | (simp; done) | (simp [*]; done)), H', ⟨by first | omega | exact Nat.le_refl _⟩, by repeat (first | exact Drawn0.refl _ | apply Drawn0.step)⟩
     ·rw [if_neg c6] at H
      have c6b0 : (a0.toList == ([102, 97, 108, 115, 101] : List UInt8)) = false := beq_eq_false_iff_ne.mpr c6
      have c6b1 : (a0.toList != ([102, 97, 108, 115, 101] : List UInt8)) = true := bne_iff_ne.mpr c6
      have H' := Aside0.mk H
      clear H
      go_wp2
      go_meet
      case rel => exact ⟨_, ((a0.toList == ([108, 97, 115, 116] : List UInt8))), (by first | rfl | (simp; done) | (simp [*]; done)), H', ⟨by first | omega | exact Nat.le_refl _⟩, by repeat (first | exact Drawn0.refl _ | apply Drawn0.step)⟩
 case rest =>
  clear HC2
  try clear c2
  try clear p2
  try clear c3
  try clear c3b0
  try clear c3b1
  try clear c4
  try clear c4b0
  try clear c4b1
  try clear c5
  try clear c5b0
  try clear c5b1
  try clear c6
  try clear c6b0
  try clear c6b1
  obtain ⟨kq, x24_1, rfl, HA, HJ1, ⟨mc1, rfl⟩⟩ := hcut
  cases kq with
  | zero => exact absurd HA.out (by simp [letter_Name.j0])
  | succ kj1 =>
   have H := HA.out
   clear HA
   simp only [letter_Name.j0] at H
   by_cases c7 : x24_1 = true
   ·subst c7
    have H1 : (some false) = some r := by rw [if_pos rfl] at H; exact H
    clear H
    have H := H1
    clear H1
    obtain rfl := Option.some.inj H
    go_wp2
    go_ret
    exact ⟨by first | rfl | (simp; done) | (simp [*]; done), by repeat (first | exact Drawn0.refl _ | apply Drawn0.step)⟩
   ·replace c7 := Bool.eq_false_iff.mpr c7
    subst c7
    have H1 : (letter_Name.l0 kj1 a0 (a0.size : Int) 0) = some r := by rw [if_neg (show ¬ (false = true) by decide)] at H; exact H
    clear H
    have H := H1
    clear H1
    have H' := Aside0.mk H
    clear H
    go_wp2
    go_loopg [27] kj1 (fun kq v27 w' => ∃ (x27_2 : Int), v27 = .int .i64 x27_2 ∧ Aside0 (letter_Name.l0 kq a0 (a0.size : Int) x27_2 = some r) ∧ Aside0 (kq ≤ kj1) ∧ Drawn0 w w')
    case atStart => exact ⟨(0), (by first | rfl | (simp; done) | (simp [*]; done)), H', ⟨Nat.le_refl _⟩, by repeat (first | exact Drawn0.refl _ | apply Drawn0.step)⟩
    case round =>
     clear H'
     try clear c1
     try clear c2
     try clear p2
     try clear c3
     try clear c3b0
     try clear c3b1
     try clear c4
     try clear c4b0
     try clear c4b1
     try clear c5
     try clear c5b0
     try clear c5b1
     try clear c6
     try clear c6b0
     try clear c6b1
     try clear c7
     try clear p2
     obtain ⟨x27_2, rfl, HA, HK2, ⟨m2, rfl⟩⟩ := hrel
     cases gk with
     | zero => exact absurd HA.out (by simp [letter_Name.l0])
     | succ k2 =>
      have H := HA.out
      clear HA
      simp only [letter_Name.l0] at H
      by_cases c8 : x27_2 < (a0.size : Int)
      ·rw [if_pos c8] at H
       have c8b0 : decide (x27_2 < (a0.size : Int)) = true := decide_eq_true c8
       clear c8
       by_cases c9 : 0 ≤ x27_2
       ·rw [if_pos c9] at H
        have c9b0 : decide (0 ≤ x27_2) = true := decide_eq_true c9
        clear c9
        by_cases c10 : x27_2 < (a0.size : Int)
        ·rw [if_pos c10] at H
         have c10b0 : decide (x27_2 < (a0.size : Int)) = true := decide_eq_true c10
         clear c10
         by_cases c12 : (bt a0 x27_2) < 97
         ·rw [if_pos c12] at H
          have c12b0 : decide ((bt a0 x27_2) < 97) = true := decide_eq_true c12
          clear c12
          by_cases c13 : x27_2 = 0
          ·rw [if_pos c13] at H
           have c13b0 : (x27_2 == 0) = true := beq_iff_eq.mpr c13
           have c13b1 : (x27_2 != 0) = false := bne_eq_false_iff_eq.mpr c13
           clear c13
           obtain rfl := Option.some.inj H
           have p11 : 0 ≤ (x27_2 : Int) := of_decide_eq_true (by first | (with_reducible assumption) | assumption)
           have q11 : x27_2 < (a0.size : Int) := of_decide_eq_true (by first | (with_reducible assumption) | assumption)
           have hx11 := bt_at a0 x27_2
           replace p11 := eq_true p11
           replace q11 := eq_true q11
           go_wp2
           go_ret
           exact ⟨by first | rfl | (simp; done) | (simp [*]; done), by repeat (first | exact Drawn0.refl _ | apply Drawn0.step)⟩
          ·rw [if_neg c13] at H
           have c13b0 : (x27_2 == 0) = false := beq_eq_false_iff_ne.mpr c13
           have c13b1 : (x27_2 != 0) = true := bne_iff_ne.mpr c13
           by_cases c14 : (bt a0 x27_2) < 48
           ·rw [if_pos c14] at H
            have c14b0 : decide ((bt a0 x27_2) < 48) = true := decide_eq_true c14
            clear c14
            obtain rfl := Option.some.inj H
            have p11 : 0 ≤ (x27_2 : Int) := of_decide_eq_true (by first | (with_reducible assumption) | assumption)
            have q11 : x27_2 < (a0.size : Int) := of_decide_eq_true (by first | (with_reducible assumption) | assumption)
            have hx11 := bt_at a0 x27_2
            replace p11 := eq_true p11
            replace q11 := eq_true q11
            go_wp2
            go_ret
            exact ⟨by first | rfl | (simp; done) | (simp [*]; done), by repeat (first | exact Drawn0.refl _ | apply Drawn0.step)⟩
           ·rw [if_neg c14] at H
            have c14b0 : decide ((bt a0 x27_2) < 48) = false := decide_eq_false c14
            clear c14
            by_cases c15 : (bt a0 x27_2) > 57
            ·rw [if_pos c15] at H
             have c15b0 : decide (57 < (bt a0 x27_2)) = true := decide_eq_true c15
             clear c15
             obtain rfl := Option.some.inj H
             have p11 : 0 ≤ (x27_2 : Int) := of_decide_eq_true (by first | (with_reducible assumption) | assumption)
             have q11 : x27_2 < (a0.size : Int) := of_decide_eq_true (by first | (with_reducible assumption) | assumption)
             have hx11 := bt_at a0 x27_2
             replace p11 := eq_true p11
             replace q11 := eq_true q11
             go_wp2
             go_ret
             exact ⟨by first | rfl | (simp; done) | (simp [*]; done), by repeat (first | exact Drawn0.refl _ | apply Drawn0.step)⟩
            ·rw [if_neg c15] at H
             have c15b0 : decide (57 < (bt a0 x27_2)) = false := decide_eq_false c15
             clear c15
             have H' := Aside0.mk H
             clear H
             have p11 : 0 ≤ (x27_2 : Int) := of_decide_eq_true (by first | (with_reducible assumption) | assumption)
             have q11 : x27_2 < (a0.size : Int) := of_decide_eq_true (by first | (with_reducible assumption) | assumption)
             have hx11 := bt_at a0 x27_2
             replace p11 := eq_true p11
             replace q11 := eq_true q11
             go_wp2
             go_roundg k2
             case measure => have := HJ1.out; have := HK2.out; omega
             case rel => exact ⟨(wrap64 (x27_2 + 1)), (by first | rfl | (simp; done) | (simp [*]; done)), H', ⟨by have := HJ1.out; have := HK2.out; omega⟩, by repeat (first | exact Drawn0.refl _ | apply Drawn0.step)⟩
         ·rw [if_neg c12] at H
          have c12b0 : decide ((bt a0 x27_2) < 97) = false := decide_eq_false c12
          clear c12
          by_cases c16 : (bt a0 x27_2) > 122
          ·rw [if_pos c16] at H
           have c16b0 : decide (122 < (bt a0 x27_2)) = true := decide_eq_true c16
           clear c16
           by_cases c17 : x27_2 = 0
           ·rw [if_pos c17] at H
            have c17b0 : (x27_2 == 0) = true := beq_iff_eq.mpr c17
            have c17b1 : (x27_2 != 0) = false := bne_eq_false_iff_eq.mpr c17
            clear c17
            obtain rfl := Option.some.inj H
            have p11 : 0 ≤ (x27_2 : Int) := of_decide_eq_true (by first | (with_reducible assumption) | assumption)
            have q11 : x27_2 < (a0.size : Int) := of_decide_eq_true (by first | (with_reducible assumption) | assumption)
            have hx11 := bt_at a0 x27_2
            replace p11 := eq_true p11
            replace q11 := eq_true q11
            go_wp2
            go_ret
            exact ⟨by first | rfl | (simp; done) | (simp [*]; done), by repeat (first | exact Drawn0.refl _ | apply Drawn0.step)⟩
           ·rw [if_neg c17] at H
            have c17b0 : (x27_2 == 0) = false := beq_eq_false_iff_ne.mpr c17
            have c17b1 : (x27_2 != 0) = true := bne_iff_ne.mpr c17
            by_cases c18 : (bt a0 x27_2) < 48
            ·rw [if_pos c18] at H
             have c18b0 : decide ((bt a0 x27_2) < 48) = true := decide_eq_true c18
             clear c18
             obtain rfl := Option.some.inj H
             have p11 : 0 ≤ (x27_2 : Int) := of_decide_eq_true (by first | (with_reducible assumption) | assumption)
             have q11 : x27_2 < (a0.size : Int) := of_decide_eq_true (by first | (with_reducible assumption) | assumption)
             have hx11 := bt_at a0 x27_2
             replace p11 := eq_true p11
             replace q11 := eq_true q11
             go_wp2
             go_ret
             exact ⟨by first | rfl | (simp; done) | (simp [*]; done), by repeat (first | exact Drawn0.refl _ | apply Drawn0.step)⟩
            ·rw [if_neg c18] at H
             have c18b0 : decide ((bt a0 x27_2) < 48) = false := decide_eq_false c18
             clear c18
             by_cases c19 : (bt a0 x27_2) > 57
             ·rw [if_pos c19] at H
              have c19b0 : decide (57 < (bt a0 x27_2)) = true := decide_eq_true c19
              clear c19
              obtain rfl := Option.some.inj H
              have p11 : 0 ≤ (x27_2 : Int) := of_decide_eq_true (by first | (with_reducible assumption) | assumption)
              have q11 : x27_2 < (a0.size : Int) := of_decide_eq_true (by first | (with_reducible assumption) | assumption)
              have hx11 := bt_at a0 x27_2
              replace p11 := eq_true p11
              replace q11 := eq_true q11
              go_wp2
              go_ret
              exact ⟨by first | rfl | (simp; done) | (simp [*]; done), by repeat (first | exact Drawn0.refl _ | apply Drawn0.step)⟩
             ·rw [if_neg c19] at H
              have c19b0 : decide (57 < (bt a0 x27_2)) = false := decide_eq_false c19
              clear c19
              have H' := Aside0.mk H
              clear H
              have p11 : 0 ≤ (x27_2 : Int) := of_decide_eq_true (by first | (with_reducible assumption) | assumption)
              have q11 : x27_2 < (a0.size : Int) := of_decide_eq_true (by first | (with_reducible assumption) | assumption)
              have hx11 := bt_at a0 x27_2
              replace p11 := eq_true p11
              replace q11 := eq_true q11
              go_wp2
              go_roundg k2
              case measure => have := HJ1.out; have := HK2.out; omega
              case rel => exact ⟨(wrap64 (x27_2 + 1)), (by first | rfl | (simp; done) | (simp [*]; done)), H', ⟨by have := HJ1.out; have := HK2.out; omega⟩, by repeat (first | exact Drawn0.refl _ | apply Drawn0.step)⟩
          ·rw [if_neg c16] at H
           have c16b0 : decide (122 < (bt a0 x27_2)) = false := decide_eq_false c16
           clear c16
           have H' := Aside0.mk H
           clear H
           have p11 : 0 ≤ (x27_2 : Int) := of_decide_eq_true (by first | (with_reducible assumption) | assumption)
           have q11 : x27_2 < (a0.size : Int) := of_decide_eq_true (by first | (with_reducible assumption) | assumption)
           have hx11 := bt_at a0 x27_2
           replace p11 := eq_true p11
           replace q11 := eq_true q11
           go_wp2
           go_roundg k2
           case measure => have := HJ1.out; have := HK2.out; omega
           case rel => exact ⟨(wrap64 (x27_2 + 1)), (by first | rfl | (simp; done) | (simp [*]; done)), H', ⟨by have := HJ1.out; have := HK2.out; omega⟩, by repeat (first | exact Drawn0.refl _ | apply Drawn0.step)⟩
        ·rw [if_neg c10] at H
         exact absurd H (by simp)
       ·rw [if_neg c9] at H
        exact absurd H (by simp)
      ·rw [if_neg c8] at H
       have c8b0 : decide (x27_2 < (a0.size : Int)) = false := decide_eq_false c8
       clear c8
       obtain rfl := Option.some.inj H
       go_wp2
       go_ret
       exact ⟨by first | rfl | (simp; done) | (simp [*]; done), by repeat (first | exact Drawn0.refl _ | apply Drawn0.step)⟩
def lexis_Sort.f (k : Nat) (a0 : ByteArray) : Option (Int × Bool) := (lexis_in.f k (⟨#[40, 32, 41, 32, 91, 32, 93, 32, 123, 32, 125, 32, 60, 32, 62, 32, 33, 32, 63, 32, 38, 32, 124, 32, 43, 32, 59, 32, 42, 32, 45, 62, 32, 60, 45, 62]⟩ : ByteArray) a0).bind fun t268 => (if t268 = true then (some (0, true)) else ((lexis_in.f k (⟨#[88, 32, 78, 32, 70, 32, 71, 32, 85, 32, 82, 32, 116, 114, 117, 101, 32, 102, 97, 108, 115, 101, 32, 108, 97, 115, 116]⟩ : ByteArray) a0).bind fun t269 => (if t269 = true then (some (1, true)) else ((letter_Name.f k a0).bind fun t270 => (if t270 = true then (some (2, true)) else (some (0, false)))))))
theorem lexis_Sort.mono : ∀ a0 k, LeO (lexis_Sort.f k a0) (lexis_Sort.f (k + 1) a0) := by
 intro a0 k
 unfold lexis_Sort.f
 repeat' first
   | (with_reducible exact letter_Name.mono _ _)
   | (with_reducible exact lexis_in.mono _ _ _)
   | (with_reducible exact LeO.refl _)
   | (with_reducible exact LeO.none _)
   | (with_reducible refine LeO.ite ?_ ?_)
   | (with_reducible refine LeO.bind ?_ (fun _ => ?_))
   | exact letter_Name.mono _ _
   | exact lexis_in.mono _ _ _
   | exact LeO.none _
   | refine LeO.ite ?_ ?_
   | refine LeO.bind ?_ (fun _ => ?_)
set_option maxHeartbeats 8000000 in
set_option maxRecDepth 100000 in
theorem lexis_Sort.calls (k : Nat) (a0 : ByteArray) (r1 : Int) (r2 : Bool) (w : World) (h : lexis_Sort.f k a0 = some (r1, r2)) (HT : Aside0 (Laid w) := by exact ⟨Laid.later HT.out (by repeat (first | (with_reducible first | exact HB.out | apply below_alloc | apply pw_below_drewN | apply below_drew1) | exact HB.out))⟩) :
  Calls Tryz.prog 60 #[.string a0] w fun e w' => e = .returned (.tuple #[.int .u8 r1, .bool r2]) ∧ Below w.heap.size w w' := by
 have HB := Aside0.mk (Below.refl w.heap.size w)
 have H : ((lexis_in.f k (⟨#[40, 32, 41, 32, 91, 32, 93, 32, 123, 32, 125, 32, 60, 32, 62, 32, 33, 32, 63, 32, 38, 32, 124, 32, 43, 32, 59, 32, 42, 32, 45, 62, 32, 60, 45, 62]⟩ : ByteArray) a0).bind fun t268 => (if t268 = true then (some (0, true)) else ((lexis_in.f k (⟨#[88, 32, 78, 32, 70, 32, 71, 32, 85, 32, 82, 32, 116, 114, 117, 101, 32, 102, 97, 108, 115, 101, 32, 108, 97, 115, 116]⟩ : ByteArray) a0).bind fun t269 => (if t269 = true then (some (1, true)) else ((letter_Name.f k a0).bind fun t270 => (if t270 = true then (some (2, true)) else (some (0, false)))))))) = some (r1, r2) := h
 clear h
 replace H := Option.bind_eq_some_iff.mp H
 obtain ⟨t268, A20, H⟩ := H
 replace H : (if t268 = true then (some (0, true)) else ((lexis_in.f k (⟨#[88, 32, 78, 32, 70, 32, 71, 32, 85, 32, 82, 32, 116, 114, 117, 101, 32, 102, 97, 108, 115, 101, 32, 108, 97, 115, 116]⟩ : ByteArray) a0).bind fun t269 => (if t269 = true then (some (1, true)) else ((letter_Name.f k a0).bind fun t270 => (if t270 = true then (some (2, true)) else (some (0, false))))))) = some (r1, r2) := H
 have A2 := Aside0.mk A20
 clear A20
 by_cases c3 : t268 = true
 ·subst c3
  have H1 : (some (0, true)) = some (r1, r2) := by rw [if_pos rfl] at H; exact H
  clear H
  have H := H1
  clear H1
  simp only [Option.some.injEq, Prod.mk.injEq] at H
  obtain ⟨rfl, rfl⟩ := H
  go_enter Tryz.func60, Tryz.ntmps60
  go_wp2_with (first | ((with_reducible refine gate_callee (f := 78) rfl ?_); refine goesL_ (some 6) rfl rfl Tryz.func78 (by kernel_rfl) rfl #[.string (⟨#[40, 32, 41, 32, 91, 32, 93, 32, 123, 32, 125, 32, 60, 32, 62, 32, 33, 32, 63, 32, 38, 32, 124, 32, 43, 32, 59, 32, 42, 32, 45, 62, 32, 60, 45, 62]⟩ : ByteArray), .string a0] rfl (by (try simp only [List.map_toArray, List.map_cons, List.map_nil]); first | done | rfl | (simp only [List.length_drop, List.length_take]; rfl)) ?_; (with_reducible refine (lexis_in.calls k (⟨#[40, 32, 41, 32, 91, 32, 93, 32, 123, 32, 125, 32, 60, 32, 62, 32, 33, 32, 63, 32, 38, 32, 124, 32, 43, 32, 59, 32, 42, 32, 45, 62, 32, 60, 45, 62]⟩ : ByteArray) a0 true _ A2.out).mono ?_); rintro e w4 ⟨rfl, hb⟩; refine ⟨_, rfl, ?_⟩; have n0_ := Aside0.mk (below_step (by repeat (first | (with_reducible first | exact HB.out | apply below_alloc | apply pw_below_drewN | apply below_drew1) | exact HB.out)) hb); clear HB; have HB := n0_; clear n0_; (try clear hb); (try clear hb2); (try clear hk); (try clear hi)))
  go_ret2
  exact ⟨by first | rfl | (simp [errW_none, errW_some] <;> rfl) | (simp [*, errW_none, errW_some] <;> rfl), by repeat (first | (with_reducible first | exact HB.out | apply below_alloc | apply pw_below_drewN | apply below_drew1) | exact HB.out)⟩
 ·replace c3 := Bool.eq_false_iff.mpr c3
  subst c3
  have H1 : ((lexis_in.f k (⟨#[88, 32, 78, 32, 70, 32, 71, 32, 85, 32, 82, 32, 116, 114, 117, 101, 32, 102, 97, 108, 115, 101, 32, 108, 97, 115, 116]⟩ : ByteArray) a0).bind fun t269 => (if t269 = true then (some (1, true)) else ((letter_Name.f k a0).bind fun t270 => (if t270 = true then (some (2, true)) else (some (0, false)))))) = some (r1, r2) := by rw [if_neg (show ¬ (false = true) by decide)] at H; exact H
  clear H
  have H := H1
  clear H1
  replace H := Option.bind_eq_some_iff.mp H
  obtain ⟨t269, A50, H⟩ := H
  replace H : (if t269 = true then (some (1, true)) else ((letter_Name.f k a0).bind fun t270 => (if t270 = true then (some (2, true)) else (some (0, false))))) = some (r1, r2) := H
  have A5 := Aside0.mk A50
  clear A50
  by_cases c6 : t269 = true
  ·subst c6
   have H1 : (some (1, true)) = some (r1, r2) := by rw [if_pos rfl] at H; exact H
   clear H
   have H := H1
   clear H1
   simp only [Option.some.injEq, Prod.mk.injEq] at H
   obtain ⟨rfl, rfl⟩ := H
   go_enter Tryz.func60, Tryz.ntmps60
   go_wp2_with (first | ((with_reducible refine gate_callee (f := 78) rfl ?_); refine goesL_ (some 6) rfl rfl Tryz.func78 (by kernel_rfl) rfl #[.string (⟨#[40, 32, 41, 32, 91, 32, 93, 32, 123, 32, 125, 32, 60, 32, 62, 32, 33, 32, 63, 32, 38, 32, 124, 32, 43, 32, 59, 32, 42, 32, 45, 62, 32, 60, 45, 62]⟩ : ByteArray), .string a0] rfl (by (try simp only [List.map_toArray, List.map_cons, List.map_nil]); first | done | rfl | (simp only [List.length_drop, List.length_take]; rfl)) ?_; (with_reducible refine (lexis_in.calls k (⟨#[40, 32, 41, 32, 91, 32, 93, 32, 123, 32, 125, 32, 60, 32, 62, 32, 33, 32, 63, 32, 38, 32, 124, 32, 43, 32, 59, 32, 42, 32, 45, 62, 32, 60, 45, 62]⟩ : ByteArray) a0 false _ A2.out).mono ?_); rintro e w7 ⟨rfl, hb⟩; refine ⟨_, rfl, ?_⟩; have n0_ := Aside0.mk (below_step (by repeat (first | (with_reducible first | exact HB.out | apply below_alloc | apply pw_below_drewN | apply below_drew1) | exact HB.out)) hb); clear HB; have HB := n0_; clear n0_; (try clear hb); (try clear hb2); (try clear hk); (try clear hi)) | ((with_reducible refine gate_callee (f := 78) rfl ?_); refine goesL_ (some 9) rfl rfl Tryz.func78 (by kernel_rfl) rfl #[.string (⟨#[88, 32, 78, 32, 70, 32, 71, 32, 85, 32, 82, 32, 116, 114, 117, 101, 32, 102, 97, 108, 115, 101, 32, 108, 97, 115, 116]⟩ : ByteArray), .string a0] rfl (by (try simp only [List.map_toArray, List.map_cons, List.map_nil]); first | done | rfl | (simp only [List.length_drop, List.length_take]; rfl)) ?_; (with_reducible refine (lexis_in.calls k (⟨#[88, 32, 78, 32, 70, 32, 71, 32, 85, 32, 82, 32, 116, 114, 117, 101, 32, 102, 97, 108, 115, 101, 32, 108, 97, 115, 116]⟩ : ByteArray) a0 true _ A5.out).mono ?_); rintro e w8 ⟨rfl, hb⟩; refine ⟨_, rfl, ?_⟩; have n0_ := Aside0.mk (below_step (by repeat (first | (with_reducible first | exact HB.out | apply below_alloc | apply pw_below_drewN | apply below_drew1) | exact HB.out)) hb); clear HB; have HB := n0_; clear n0_; (try clear hb); (try clear hb2); (try clear hk); (try clear hi)))
   go_ret2
   exact ⟨by first | rfl | (simp [errW_none, errW_some] <;> rfl) | (simp [*, errW_none, errW_some] <;> rfl), by repeat (first | (with_reducible first | exact HB.out | apply below_alloc | apply pw_below_drewN | apply below_drew1) | exact HB.out)⟩
  ·replace c6 := Bool.eq_false_iff.mpr c6
   subst c6
   have H1 : ((letter_Name.f k a0).bind fun t270 => (if t270 = true then (some (2, true)) else (some (0, false)))) = some (r1, r2) := by rw [if_neg (show ¬ (false = true) by decide)] at H; exact H
   clear H
   have H := H1
   clear H1
   replace H := Option.bind_eq_some_iff.mp H
   obtain ⟨t270, A90, H⟩ := H
   replace H : (if t270 = true then (some (2, true)) else (some (0, false))) = some (r1, r2) := H
   have A9 := Aside0.mk A90
   clear A90
   by_cases c10 : t270 = true
   ·subst c10
    have H1 : (some (2, true)) = some (r1, r2) := by rw [if_pos rfl] at H; exact H
    clear H
    have H := H1
    clear H1
    simp only [Option.some.injEq, Prod.mk.injEq] at H
    obtain ⟨rfl, rfl⟩ := H
    go_enter Tryz.func60, Tryz.ntmps60
    go_wp2_with (first | ((with_reducible refine gate_callee (f := 78) rfl ?_); refine goesL_ (some 6) rfl rfl Tryz.func78 (by kernel_rfl) rfl #[.string (⟨#[40, 32, 41, 32, 91, 32, 93, 32, 123, 32, 125, 32, 60, 32, 62, 32, 33, 32, 63, 32, 38, 32, 124, 32, 43, 32, 59, 32, 42, 32, 45, 62, 32, 60, 45, 62]⟩ : ByteArray), .string a0] rfl (by (try simp only [List.map_toArray, List.map_cons, List.map_nil]); first | done | rfl | (simp only [List.length_drop, List.length_take]; rfl)) ?_; (with_reducible refine (lexis_in.calls k (⟨#[40, 32, 41, 32, 91, 32, 93, 32, 123, 32, 125, 32, 60, 32, 62, 32, 33, 32, 63, 32, 38, 32, 124, 32, 43, 32, 59, 32, 42, 32, 45, 62, 32, 60, 45, 62]⟩ : ByteArray) a0 false _ A2.out).mono ?_); rintro e w11 ⟨rfl, hb⟩; refine ⟨_, rfl, ?_⟩; have n0_ := Aside0.mk (below_step (by repeat (first | (with_reducible first | exact HB.out | apply below_alloc | apply pw_below_drewN | apply below_drew1) | exact HB.out)) hb); clear HB; have HB := n0_; clear n0_; (try clear hb); (try clear hb2); (try clear hk); (try clear hi)) | ((with_reducible refine gate_callee (f := 78) rfl ?_); refine goesL_ (some 9) rfl rfl Tryz.func78 (by kernel_rfl) rfl #[.string (⟨#[88, 32, 78, 32, 70, 32, 71, 32, 85, 32, 82, 32, 116, 114, 117, 101, 32, 102, 97, 108, 115, 101, 32, 108, 97, 115, 116]⟩ : ByteArray), .string a0] rfl (by (try simp only [List.map_toArray, List.map_cons, List.map_nil]); first | done | rfl | (simp only [List.length_drop, List.length_take]; rfl)) ?_; (with_reducible refine (lexis_in.calls k (⟨#[88, 32, 78, 32, 70, 32, 71, 32, 85, 32, 82, 32, 116, 114, 117, 101, 32, 102, 97, 108, 115, 101, 32, 108, 97, 115, 116]⟩ : ByteArray) a0 false _ A5.out).mono ?_); rintro e w12 ⟨rfl, hb⟩; refine ⟨_, rfl, ?_⟩; have n0_ := Aside0.mk (below_step (by repeat (first | (with_reducible first | exact HB.out | apply below_alloc | apply pw_below_drewN | apply below_drew1) | exact HB.out)) hb); clear HB; have HB := n0_; clear n0_; (try clear hb); (try clear hb2); (try clear hk); (try clear hi)) | ((with_reducible refine gate_callee (f := 24) rfl ?_); refine goesL_ (some 12) rfl rfl Tryz.func24 (by kernel_rfl) rfl #[.string a0] rfl (by (try simp only [List.map_toArray, List.map_cons, List.map_nil]); first | done | rfl | (simp only [List.length_drop, List.length_take]; rfl)) ?_; (with_reducible refine (letter_Name.calls k a0 true _ A9.out).mono ?_); rintro e w' ⟨rfl, ⟨nd, rfl⟩⟩; refine ⟨_, rfl, ?_⟩))
    go_ret2
    exact ⟨by first | rfl | (simp [errW_none, errW_some] <;> rfl) | (simp [*, errW_none, errW_some] <;> rfl), by repeat (first | (with_reducible first | exact HB.out | apply below_alloc | apply pw_below_drewN | apply below_drew1) | exact HB.out)⟩
   ·replace c10 := Bool.eq_false_iff.mpr c10
    subst c10
    have H1 : (some (0, false)) = some (r1, r2) := by rw [if_neg (show ¬ (false = true) by decide)] at H; exact H
    clear H
    have H := H1
    clear H1
    simp only [Option.some.injEq, Prod.mk.injEq] at H
    obtain ⟨rfl, rfl⟩ := H
    go_enter Tryz.func60, Tryz.ntmps60
    go_wp2_with (first | ((with_reducible refine gate_callee (f := 78) rfl ?_); refine goesL_ (some 6) rfl rfl Tryz.func78 (by kernel_rfl) rfl #[.string (⟨#[40, 32, 41, 32, 91, 32, 93, 32, 123, 32, 125, 32, 60, 32, 62, 32, 33, 32, 63, 32, 38, 32, 124, 32, 43, 32, 59, 32, 42, 32, 45, 62, 32, 60, 45, 62]⟩ : ByteArray), .string a0] rfl (by (try simp only [List.map_toArray, List.map_cons, List.map_nil]); first | done | rfl | (simp only [List.length_drop, List.length_take]; rfl)) ?_; (with_reducible refine (lexis_in.calls k (⟨#[40, 32, 41, 32, 91, 32, 93, 32, 123, 32, 125, 32, 60, 32, 62, 32, 33, 32, 63, 32, 38, 32, 124, 32, 43, 32, 59, 32, 42, 32, 45, 62, 32, 60, 45, 62]⟩ : ByteArray) a0 false _ A2.out).mono ?_); rintro e w13 ⟨rfl, hb⟩; refine ⟨_, rfl, ?_⟩; have n0_ := Aside0.mk (below_step (by repeat (first | (with_reducible first | exact HB.out | apply below_alloc | apply pw_below_drewN | apply below_drew1) | exact HB.out)) hb); clear HB; have HB := n0_; clear n0_; (try clear hb); (try clear hb2); (try clear hk); (try clear hi)) | ((with_reducible refine gate_callee (f := 78) rfl ?_); refine goesL_ (some 9) rfl rfl Tryz.func78 (by kernel_rfl) rfl #[.string (⟨#[88, 32, 78, 32, 70, 32, 71, 32, 85, 32, 82, 32, 116, 114, 117, 101, 32, 102, 97, 108, 115, 101, 32, 108, 97, 115, 116]⟩ : ByteArray), .string a0] rfl (by (try simp only [List.map_toArray, List.map_cons, List.map_nil]); first | done | rfl | (simp only [List.length_drop, List.length_take]; rfl)) ?_; (with_reducible refine (lexis_in.calls k (⟨#[88, 32, 78, 32, 70, 32, 71, 32, 85, 32, 82, 32, 116, 114, 117, 101, 32, 102, 97, 108, 115, 101, 32, 108, 97, 115, 116]⟩ : ByteArray) a0 false _ A5.out).mono ?_); rintro e w14 ⟨rfl, hb⟩; refine ⟨_, rfl, ?_⟩; have n0_ := Aside0.mk (below_step (by repeat (first | (with_reducible first | exact HB.out | apply below_alloc | apply pw_below_drewN | apply below_drew1) | exact HB.out)) hb); clear HB; have HB := n0_; clear n0_; (try clear hb); (try clear hb2); (try clear hk); (try clear hi)) | ((with_reducible refine gate_callee (f := 24) rfl ?_); refine goesL_ (some 12) rfl rfl Tryz.func24 (by kernel_rfl) rfl #[.string a0] rfl (by (try simp only [List.map_toArray, List.map_cons, List.map_nil]); first | done | rfl | (simp only [List.length_drop, List.length_take]; rfl)) ?_; (with_reducible refine (letter_Name.calls k a0 false _ A9.out).mono ?_); rintro e w' ⟨rfl, ⟨nd, rfl⟩⟩; refine ⟨_, rfl, ?_⟩))
    go_ret2
    exact ⟨by first | rfl | (simp [errW_none, errW_some] <;> rfl) | (simp [*, errW_none, errW_some] <;> rfl), by repeat (first | (with_reducible first | exact HB.out | apply below_alloc | apply pw_below_drewN | apply below_drew1) | exact HB.out)⟩
def lexis_wordly.f (a0 : Int) : Option (Bool) := if a0 ≥ 97 then (if a0 ≤ 122 then (some true) else (if a0 ≥ 65 then (if a0 ≤ 90 then (some true) else (if a0 ≥ 48 then (some (decide (a0 ≤ 57))) else (some false))) else (if a0 ≥ 48 then (some (decide (a0 ≤ 57))) else (some false)))) else (if a0 ≥ 65 then (if a0 ≤ 90 then (some true) else (if a0 ≥ 48 then (some (decide (a0 ≤ 57))) else (some false))) else (if a0 ≥ 48 then (some (decide (a0 ≤ 57))) else (some false)))
set_option maxHeartbeats 8000000 in
set_option maxRecDepth 100000 in
theorem lexis_wordly.calls (a0 : Int) (r : Bool) (w : World) (h : lexis_wordly.f a0 = some r) :
  Calls Tryz.prog 75 #[.int .i32 a0] w fun e w' => e = .returned (.bool r) ∧ Drawn0 w w' := by
 have H : (if a0 ≥ 97 then (if a0 ≤ 122 then (some true) else (if a0 ≥ 65 then (if a0 ≤ 90 then (some true) else (if a0 ≥ 48 then (some (decide (a0 ≤ 57))) else (some false))) else (if a0 ≥ 48 then (some (decide (a0 ≤ 57))) else (some false)))) else (if a0 ≥ 65 then (if a0 ≤ 90 then (some true) else (if a0 ≥ 48 then (some (decide (a0 ≤ 57))) else (some false))) else (if a0 ≥ 48 then (some (decide (a0 ≤ 57))) else (some false)))) = some r := h
 clear h
 by_cases c2 : a0 ≥ 97
 ·rw [if_pos c2] at H
  have c2b0 : decide (97 ≤ a0) = true := decide_eq_true c2
  clear c2
  by_cases c3 : a0 ≤ 122
  ·rw [if_pos c3] at H
   have c3b0 : decide (a0 ≤ 122) = true := decide_eq_true c3
   clear c3
   obtain rfl := Option.some.inj H
   go_enter Tryz.func75, Tryz.ntmps75
   go_wp2
   go_ret
   exact ⟨by first | rfl | (simp; done) | (simp [*]; done), by repeat (first | exact Drawn0.refl _ | apply Drawn0.step)⟩
  ·rw [if_neg c3] at H
   have c3b0 : decide (a0 ≤ 122) = false := decide_eq_false c3
   clear c3
   by_cases c4 : a0 ≥ 65
   ·rw [if_pos c4] at H
    have c4b0 : decide (65 ≤ a0) = true := decide_eq_true c4
    clear c4
    by_cases c5 : a0 ≤ 90
    ·rw [if_pos c5] at H
     have c5b0 : decide (a0 ≤ 90) = true := decide_eq_true c5
     clear c5
     obtain rfl := Option.some.inj H
     go_enter Tryz.func75, Tryz.ntmps75
     go_wp2
     go_ret
     exact ⟨by first | rfl | (simp; done) | (simp [*]; done), by repeat (first | exact Drawn0.refl _ | apply Drawn0.step)⟩
    ·rw [if_neg c5] at H
     have c5b0 : decide (a0 ≤ 90) = false := decide_eq_false c5
     clear c5
     by_cases c6 : a0 ≥ 48
     ·rw [if_pos c6] at H
      have c6b0 : decide (48 ≤ a0) = true := decide_eq_true c6
      clear c6
      obtain rfl := Option.some.inj H
      go_enter Tryz.func75, Tryz.ntmps75
      go_wp2
      go_ret
      exact ⟨by first | rfl | (simp; done) | (simp [*]; done), by repeat (first | exact Drawn0.refl _ | apply Drawn0.step)⟩
     ·rw [if_neg c6] at H
      have c6b0 : decide (48 ≤ a0) = false := decide_eq_false c6
      clear c6
      obtain rfl := Option.some.inj H
      go_enter Tryz.func75, Tryz.ntmps75
      go_wp2
      go_ret
      exact ⟨by first | rfl | (simp; done) | (simp [*]; done), by repeat (first | exact Drawn0.refl _ | apply Drawn0.step)⟩
   ·rw [if_neg c4] at H
    have c4b0 : decide (65 ≤ a0) = false := decide_eq_false c4
    clear c4
    by_cases c7 : a0 ≥ 48
    ·rw [if_pos c7] at H
     have c7b0 : decide (48 ≤ a0) = true := decide_eq_true c7
     clear c7
     obtain rfl := Option.some.inj H
     go_enter Tryz.func75, Tryz.ntmps75
     go_wp2
     go_ret
     exact ⟨by first | rfl | (simp; done) | (simp [*]; done), by repeat (first | exact Drawn0.refl _ | apply Drawn0.step)⟩
    ·rw [if_neg c7] at H
     have c7b0 : decide (48 ≤ a0) = false := decide_eq_false c7
     clear c7
     obtain rfl := Option.some.inj H
     go_enter Tryz.func75, Tryz.ntmps75
     go_wp2
     go_ret
     exact ⟨by first | rfl | (simp; done) | (simp [*]; done), by repeat (first | exact Drawn0.refl _ | apply Drawn0.step)⟩
 ·rw [if_neg c2] at H
  have c2b0 : decide (97 ≤ a0) = false := decide_eq_false c2
  clear c2
  by_cases c8 : a0 ≥ 65
  ·rw [if_pos c8] at H
   have c8b0 : decide (65 ≤ a0) = true := decide_eq_true c8
   clear c8
   by_cases c9 : a0 ≤ 90
   ·rw [if_pos c9] at H
    have c9b0 : decide (a0 ≤ 90) = true := decide_eq_true c9
    clear c9
    obtain rfl := Option.some.inj H
    go_enter Tryz.func75, Tryz.ntmps75
    go_wp2
    go_ret
    exact ⟨by first | rfl | (simp; done) | (simp [*]; done), by repeat (first | exact Drawn0.refl _ | apply Drawn0.step)⟩
   ·rw [if_neg c9] at H
    have c9b0 : decide (a0 ≤ 90) = false := decide_eq_false c9
    clear c9
    by_cases c10 : a0 ≥ 48
    ·rw [if_pos c10] at H
     have c10b0 : decide (48 ≤ a0) = true := decide_eq_true c10
     clear c10
     obtain rfl := Option.some.inj H
     go_enter Tryz.func75, Tryz.ntmps75
     go_wp2
     go_ret
     exact ⟨by first | rfl | (simp; done) | (simp [*]; done), by repeat (first | exact Drawn0.refl _ | apply Drawn0.step)⟩
    ·rw [if_neg c10] at H
     have c10b0 : decide (48 ≤ a0) = false := decide_eq_false c10
     clear c10
     obtain rfl := Option.some.inj H
     go_enter Tryz.func75, Tryz.ntmps75
     go_wp2
     go_ret
     exact ⟨by first | rfl | (simp; done) | (simp [*]; done), by repeat (first | exact Drawn0.refl _ | apply Drawn0.step)⟩
  ·rw [if_neg c8] at H
   have c8b0 : decide (65 ≤ a0) = false := decide_eq_false c8
   clear c8
   by_cases c11 : a0 ≥ 48
   ·rw [if_pos c11] at H
    have c11b0 : decide (48 ≤ a0) = true := decide_eq_true c11
    clear c11
    obtain rfl := Option.some.inj H
    go_enter Tryz.func75, Tryz.ntmps75
    go_wp2
    go_ret
    exact ⟨by first | rfl | (simp; done) | (simp [*]; done), by repeat (first | exact Drawn0.refl _ | apply Drawn0.step)⟩
   ·rw [if_neg c11] at H
    have c11b0 : decide (48 ≤ a0) = false := decide_eq_false c11
    clear c11
    obtain rfl := Option.some.inj H
    go_enter Tryz.func75, Tryz.ntmps75
    go_wp2
    go_ret
    exact ⟨by first | rfl | (simp; done) | (simp [*]; done), by repeat (first | exact Drawn0.refl _ | apply Drawn0.step)⟩
def stringslite_HasPrefix.f (a0 : ByteArray) (a1 : ByteArray) : Option (Bool) := if (a0.size : Int) ≥ (a1.size : Int) then (if 0 ≤ (a1.size : Int) then (if (a1.size : Int) ≤ (a0.size : Int) then (some ((a0.extract 0 ((a1.size : Int) : Int).toNat).toList == a1.toList)) else (none)) else (none)) else (some false)
set_option maxHeartbeats 8000000 in
set_option maxRecDepth 100000 in
theorem stringslite_HasPrefix.calls (a0 : ByteArray) (a1 : ByteArray) (r : Bool) (w : World) (h : stringslite_HasPrefix.f a0 a1 = some r) :
  Calls Tryz.prog 92 #[.string a0, .string a1] w fun e w' => e = .returned (.bool r) ∧ Drawn0 w w' := by
 have H : (if (a0.size : Int) ≥ (a1.size : Int) then (if 0 ≤ (a1.size : Int) then (if (a1.size : Int) ≤ (a0.size : Int) then (some ((a0.extract 0 ((a1.size : Int) : Int).toNat).toList == a1.toList)) else (none)) else (none)) else (some false)) = some r := h
 clear h
 by_cases c3 : (a0.size : Int) ≥ (a1.size : Int)
 ·rw [if_pos c3] at H
  have c3b0 : decide ((a1.size : Int) ≤ (a0.size : Int)) = true := decide_eq_true c3
  have c3b1 : decide (a1.size ≤ a0.size) = true := decide_eq_true (Int.ofNat_le.mp c3)
  clear c3
  by_cases c4 : 0 ≤ (a1.size : Int)
  ·rw [if_pos c4] at H
   have c4b0 := eq_true c4
   have c4b1 : decide (0 ≤ (a1.size : Int)) = true := decide_eq_true c4
   clear c4
   by_cases c5 : (a1.size : Int) ≤ (a0.size : Int)
   ·rw [if_pos c5] at H
    have c5b0 := eq_true c5
    have c5b1 : decide ((a1.size : Int) ≤ (a0.size : Int)) = true := decide_eq_true c5
    clear c5
    obtain rfl := Option.some.inj H
    go_enter Tryz.func92, Tryz.ntmps92
    go_wp2
    go_ret
    exact ⟨by first | rfl | (simp; done) | (simp [*]; done), by repeat (first | exact Drawn0.refl _ | apply Drawn0.step)⟩
   ·rw [if_neg c5] at H
    exact absurd H (by simp)
  ·rw [if_neg c4] at H
   exact absurd H (by simp)
 ·rw [if_neg c3] at H
  have c3b0 : decide ((a1.size : Int) ≤ (a0.size : Int)) = false := decide_eq_false c3
  have c3b1 : decide (a1.size ≤ a0.size) = false := decide_eq_false (fun h => c3 (Int.ofNat_le.mpr h))
  clear c3
  obtain rfl := Option.some.inj H
  go_enter Tryz.func92, Tryz.ntmps92
  go_wp2
  go_ret
  exact ⟨by first | rfl | (simp; done) | (simp [*]; done), by repeat (first | exact Drawn0.refl _ | apply Drawn0.step)⟩
def strings_HasPrefix.f (a0 : ByteArray) (a1 : ByteArray) : Option (Bool) := (stringslite_HasPrefix.f a0 a1).bind fun t271 => (some t271)
set_option maxHeartbeats 8000000 in
set_option maxRecDepth 100000 in
theorem strings_HasPrefix.calls (a0 : ByteArray) (a1 : ByteArray) (r : Bool) (w : World) (h : strings_HasPrefix.f a0 a1 = some r) :
  Calls Tryz.prog 77 #[.string a0, .string a1] w fun e w' => e = .returned (.bool r) ∧ Drawn0 w w' := by
 have H : ((stringslite_HasPrefix.f a0 a1).bind fun t271 => (some t271)) = some r := h
 clear h
 replace H := Option.bind_eq_some_iff.mp H
 obtain ⟨t271, A30, H⟩ := H
 replace H : (some t271) = some r := H
 have A3 := Aside0.mk A30
 clear A30
 obtain rfl := Option.some.inj H
 go_enter Tryz.func77, Tryz.ntmps77
 go_wp2_with (first | ((with_reducible refine gate_callee (f := 92) rfl ?_); refine goesL_ (some 7) rfl rfl Tryz.func92 (by kernel_rfl) rfl #[.string a0, .string a1] rfl (by (try simp only [List.map_toArray, List.map_cons, List.map_nil]); first | done | rfl | (simp only [List.length_drop, List.length_take]; rfl)) ?_; (with_reducible refine (stringslite_HasPrefix.calls a0 a1 t271 _ A3.out).mono ?_); rintro e w' ⟨rfl, ⟨nd, rfl⟩⟩; refine ⟨_, rfl, ?_⟩))
 go_ret
 exact ⟨by first | rfl | (simp; done) | (simp [*]; done), by repeat (first | exact Drawn0.refl _ | apply Drawn0.step)⟩
end Go.Proofs.YtaogoabnidbbpaaGreatDoor.PText
namespace Go.Proofs.YtaogoabnidbbpaaGreatDoor.PText
open Go.RowKit Go.Proofs.YtaogoabnidbbpaaGreatDoorW.PrintWords Go.Proofs.YtaogoabnidbbpaaGreatDoorW.PrintLast Go.Proofs.YtaogoabnidbbpaaGreatDoorW.PrintMore
set_option linter.unusedVariables false
set_option linter.unusedSimpArgs false
abbrev Bs := List UInt8
def signs : List Bs := [[40], [41], [91], [93], [123], [125], [60], [62], [33], [63], [38], [124], [43], [59], [42], [45, 62], [60, 45, 62]]
def keys : List Bs := [[88], [78], [70], [71], [85], [82], [116, 114, 117, 101], [102, 97, 108, 115, 101], [108, 97, 115, 116]]
def signsB : ByteArray := ⟨#[40, 32, 41, 32, 91, 32, 93, 32, 123, 32, 125, 32, 60, 32, 62, 32, 33, 32, 63, 32, 38, 32, 124, 32, 43, 32, 59, 32, 42, 32, 45, 62, 32, 60, 45, 62]⟩
def keysB : ByteArray := ⟨#[88, 32, 78, 32, 70, 32, 71, 32, 85, 32, 82, 32, 116, 114, 117, 101, 32, 102, 97, 108, 115, 101, 32, 108, 97, 115, 116]⟩
theorem fields_signs : strings_Fields.f signsB = some (signs.map bytesB) := by
 unfold strings_Fields.f
 rw [if_pos (by decide), if_pos (by decide), show Lib.fields signsB.data.toList = signs by decide +kernel]
theorem fields_keys : strings_Fields.f keysB = some (keys.map bytesB) := by
 unfold strings_Fields.f
 rw [if_pos (by decide), if_pos (by decide), show Lib.fields keysB.data.toList = keys by decide +kernel]
/-- A small letter; a digit; a letter or a digit. -/
def low (c : UInt8) : Bool := decide (97 ≤ c.toNat) && decide (c.toNat ≤ 122)
def dig (c : UInt8) : Bool := decide (48 ≤ c.toNat) && decide (c.toNat ≤ 57)
def wordB (c : UInt8) : Bool := low c || (decide (65 ≤ c.toNat) && decide (c.toNat ≤ 90)) || dig c
/-- May a text be a name? -/
def nameL (l : Bs) : Bool := decide (1 ≤ l.length) && decide (l.length ≤ 20) && !(l == [116, 114, 117, 101]) && !(l == [102, 97, 108, 115, 101]) && !(l == [108, 97, 115, 116]) &&
 (match l with | [] => true | c :: t => low c && t.all fun x => low x || dig x)
/-- Which sort of word a text is. -/
def sortL (l : Bs) : Int × Bool := if signs.contains l = true then (0, true) else if keys.contains l = true then (1, true) else if nameL l = true then (2, true) else (0, false)
theorem bytes_eq (l : Bs) : (bytesB l).toList = l := by rw [ByteArray.toList_eq]; rfl
theorem size_eq (s : ByteArray) : s.data.toList.length = s.size := by rw [Array.length_toList]; rfl
theorem in_loop (s : ByteArray) (xs : List Bs) (hx : xs.length ≤ 1000000) (d : Nat) : ∀ i : Nat, i + d = xs.length →
  Ev (fun k => lexis_in.l0 k s (xs.map bytesB) xs.length i) ((xs.drop i).contains s.data.toList) := by
 induction d with
 | zero =>
  intro i hi
  rw [List.drop_of_length_le (by omega)]
  refine Ev.step (f := fun _ => some false) (fun k => ?_) (Ev.now _)
  simp only [lexis_in.l0]
  rw [if_neg (by omega)]
 | succ d ih =>
  intro i hi
  have hil : i < xs.length := by omega
  have hw : wrap64 ((i : Int) + 1) = ((i + 1 : Nat) : Int) := by unfold wrap64; omega
  have hr : rdOf ByteArray.empty (xs.map bytesB) (i : Int) = bytesB xs[i] := by unfold rdOf; rw [Int.toNat_natCast]; simp [List.getD_eq_getElem?_getD, hil]
  rw [List.drop_eq_getElem_cons hil, List.contains_cons]
  by_cases he : xs[i] = s.data.toList
  ·refine Ev.step (f := fun _ => some true) (fun k => ?_) (by rw [he]; simpa using Ev.now true)
   simp only [lexis_in.l0]
   rw [if_pos (by omega), if_pos (by omega), if_pos (by simp; omega), hr, bytes_eq, ByteArray.toList_eq, if_pos he]
  ·have hne : (s.data.toList == xs[i]) = false := by
    rw [beq_eq_false_iff_ne]
    exact fun e => he e.symm
   rw [hne, Bool.false_or]
   refine Ev.step (fun k => ?_) (ih (i + 1) (by omega))
   simp only [lexis_in.l0]
   rw [if_pos (by omega), if_pos (by omega), if_pos (by simp; omega), hr, bytes_eq, ByteArray.toList_eq, if_neg he, hw]
theorem in_ev (t s : ByteArray) (xs : List Bs) (hx : xs.length ≤ 1000000) (h : strings_Fields.f t = some (xs.map bytesB)) : Ev (fun k => lexis_in.f k t s) (xs.contains s.data.toList) := by
 refine Ev.congr (f := fun k => lexis_in.l0 k s (xs.map bytesB) xs.length 0) (fun k => ?_) (in_loop s xs hx xs.length 0 (by omega))
 unfold lexis_in.f
 rw [h]
 simp only [Option.bind_some, List.length_map]
theorem bt_of (s : ByteArray) (i : Nat) (h : i < s.size) : bt s i = ((s.data.toList[i]'(by rw [size_eq]; exact h)).toNat : Int) := by
 unfold bt
 rw [dif_pos (by simpa using h)]
 rfl
theorem low_iff (c : UInt8) : low c = true ↔ 97 ≤ c.toNat ∧ c.toNat ≤ 122 := by unfold low; simp
theorem dig_iff (c : UInt8) : dig c = true ↔ 48 ≤ c.toNat ∧ c.toNat ≤ 57 := by unfold dig; simp
/-- From the place i on. -/
def tailName (l : Bs) (i : Nat) : Bool := if i = 0 then (match l with | [] => true | c :: t => low c && t.all fun x => low x || dig x) else (l.drop i).all fun x => low x || dig x
theorem name_loop (s : ByteArray) (hs : s.size ≤ 20) (d : Nat) : ∀ i : Nat, i + d = s.size → Ev (fun k => letter_Name.l0 k s s.size i) (tailName s.data.toList i) := by
 have hsz := size_eq s
 induction d with
 | zero =>
  intro i hi
  have : tailName s.data.toList i = true := by
   unfold tailName
   split
   ·rename_i h0
    have hz : s.data.toList = [] := List.eq_nil_of_length_eq_zero (by omega)
    rw [hz]
   ·rw [List.drop_of_length_le (by omega)]; rfl
  rw [this]
  refine Ev.step (f := fun _ => some true) (fun k => ?_) (Ev.now _)
  simp only [letter_Name.l0]
  rw [if_neg (by omega)]
 | succ d ih =>
  intro i hi
  have hil : i < s.data.toList.length := by omega
  have hw : wrap64 ((i : Int) + 1) = ((i + 1 : Nat) : Int) := by unfold wrap64; omega
  have hb := bt_of s i (by omega)
  obtain ⟨c, hc⟩ : ∃ c, c = s.data.toList[i] := ⟨_, rfl⟩
  rw [← hc] at hb
  have next : tailName s.data.toList (i + 1) = ((s.data.toList.drop (i + 1)).all fun x => low x || dig x) := by unfold tailName; rw [if_neg (by omega)]
  have here : tailName s.data.toList i = ((if i = 0 then low c else low c || dig c) && tailName s.data.toList (i + 1)) := by
   rw [next]
   unfold tailName
   by_cases h0 : i = 0
   ·subst h0
    rw [if_pos rfl, if_pos rfl]
    cases hl : s.data.toList with
    | nil => rw [hl] at hil; simp at hil
    | cons x t => simp only [hl] at hc; subst hc; rfl
   ·rw [if_neg h0, if_neg h0, List.drop_eq_getElem_cons hil, List.all_cons, hc]
  rw [here]
  have hn := ih (i + 1) (by omega)
  by_cases h1 : low c = true
  ·have h2 := (low_iff c).1 h1
   rw [show ((if i = 0 then low c else low c || dig c) && tailName s.data.toList (i + 1)) = tailName s.data.toList (i + 1) by rw [h1]; simp]
   refine Ev.step (fun k => ?_) hn
   simp only [letter_Name.l0]
   rw [if_pos (by omega), if_pos (by omega), if_pos (by omega), hb, if_neg (by omega), if_neg (by omega), hw]
  ·have h1' : low c = false := by simpa using h1
   have h2 : ¬ (97 ≤ c.toNat ∧ c.toNat ≤ 122) := fun e => h1 ((low_iff c).2 e)
   by_cases h0 : i = 0
   ·rw [show ((if i = 0 then low c else low c || dig c) && tailName s.data.toList (i + 1)) = false by rw [if_pos h0, h1']; rfl]
    refine Ev.step (f := fun _ => some false) (fun k => ?_) (Ev.now _)
    simp only [letter_Name.l0]
    rw [if_pos (by omega), if_pos (by omega), if_pos (by omega), hb]
    by_cases h3 : c.toNat < 97
    ·rw [if_pos (by omega), if_pos (by omega)]
    ·rw [if_neg (by omega), if_pos (by omega), if_pos (by omega)]
   ·by_cases h4 : dig c = true
    ·have h5 := (dig_iff c).1 h4
     rw [show ((if i = 0 then low c else low c || dig c) && tailName s.data.toList (i + 1)) = tailName s.data.toList (i + 1) by rw [if_neg h0, h4]; simp]
     refine Ev.step (fun k => ?_) hn
     simp only [letter_Name.l0]
     rw [if_pos (by omega), if_pos (by omega), if_pos (by omega), hb, if_pos (by omega), if_neg (by omega), if_neg (by omega), if_neg (by omega), hw]
    ·have h4' : dig c = false := by simpa using h4
     have h5 : ¬ (48 ≤ c.toNat ∧ c.toNat ≤ 57) := fun e => h4 ((dig_iff c).2 e)
     rw [show ((if i = 0 then low c else low c || dig c) && tailName s.data.toList (i + 1)) = false by rw [if_neg h0, h1', h4']; rfl]
     refine Ev.step (f := fun _ => some false) (fun k => ?_) (Ev.now _)
     simp only [letter_Name.l0]
     rw [if_pos (by omega), if_pos (by omega), if_pos (by omega), hb]
     by_cases h3 : c.toNat < 97
     ·rw [if_pos (by omega), if_neg (by omega)]
      by_cases h6 : c.toNat < 48
      ·rw [if_pos (by omega)]
      ·rw [if_neg (by omega), if_pos (by omega)]
     ·rw [if_neg (by omega), if_pos (by omega), if_neg (by omega), if_neg (by omega), if_pos (by omega)]
theorem name_ev (s : ByteArray) : Ev (fun k => letter_Name.f k s) (nameL s.data.toList) := by
 have hsz := size_eq s
 have no : ∀ (b : Bool), nameL s.data.toList = b → b = false → (∀ k, letter_Name.f (k + 1) s = some false) → Ev (fun k => letter_Name.f k s) (nameL s.data.toList) := by
  intro b hb hf h
  rw [hb, hf]
  exact Ev.step (f := fun _ => some false) h (Ev.now _)
 by_cases h1 : s.size < 1
 ·refine no false (by unfold nameL; rw [decide_eq_false (by omega)]; rfl) rfl (fun k => ?_)
  unfold letter_Name.f
  rw [if_pos (by omega)]
  simp [letter_Name.j0]
 by_cases h2 : s.size > 20
 ·refine no false (by unfold nameL; rw [decide_eq_false (show ¬ s.data.toList.length ≤ 20 by omega)]; simp) rfl (fun k => ?_)
  unfold letter_Name.f
  rw [if_neg (by omega), if_pos (by omega)]
  simp [letter_Name.j0]
 by_cases h3 : s.data.toList = [116, 114, 117, 101]
 ·refine no false (by unfold nameL; rw [h3]; rfl) rfl (fun k => ?_)
  unfold letter_Name.f
  rw [if_neg (by omega), if_neg (by omega), if_pos (by rw [ByteArray.toList_eq]; exact h3)]
  simp [letter_Name.j0]
 by_cases h4 : s.data.toList = [102, 97, 108, 115, 101]
 ·refine no false (by unfold nameL; rw [h4]; rfl) rfl (fun k => ?_)
  unfold letter_Name.f
  rw [if_neg (by omega), if_neg (by omega), if_neg (by rw [ByteArray.toList_eq]; exact h3), if_pos (by rw [ByteArray.toList_eq]; exact h4)]
  simp [letter_Name.j0]
 by_cases h5 : s.data.toList = [108, 97, 115, 116]
 ·refine no false (by unfold nameL; rw [h5]; rfl) rfl (fun k => ?_)
  unfold letter_Name.f
  rw [if_neg (by omega), if_neg (by omega), if_neg (by rw [ByteArray.toList_eq]; exact h3), if_neg (by rw [ByteArray.toList_eq]; exact h4), ByteArray.toList_eq, h5]
  simp [letter_Name.j0]
 have hv : nameL s.data.toList = tailName s.data.toList 0 := by
  unfold nameL tailName
  rw [decide_eq_true (by omega), decide_eq_true (show s.data.toList.length ≤ 20 by omega), beq_eq_false_iff_ne.2 h3, beq_eq_false_iff_ne.2 h4, beq_eq_false_iff_ne.2 h5, if_pos rfl]
  rfl
 rw [hv]
 refine Ev.congr (f := fun k => letter_Name.j0 k s false) (fun k => ?_) ?_
 ·unfold letter_Name.f
  rw [if_neg (by omega), if_neg (by omega), if_neg (by rw [ByteArray.toList_eq]; exact h3), if_neg (by rw [ByteArray.toList_eq]; exact h4), ByteArray.toList_eq, beq_eq_false_iff_ne.2 h5]
 ·exact Ev.step (f := fun k => letter_Name.l0 k s s.size 0) (fun k => by simp [letter_Name.j0]) (name_loop s (by omega) s.size 0 (by omega))
theorem sort_ev (s : ByteArray) : Ev (fun k => lexis_Sort.f k s) (sortL s.data.toList) := by
 refine Ev.congr (f := fun k => (lexis_in.f k signsB s).bind fun t108 => (if t108 = true then (some (0, true)) else ((lexis_in.f k keysB s).bind fun t109 => (if t109 = true then (some (1, true)) else ((letter_Name.f k s).bind fun t110 => (if t110 = true then (some (2, true)) else (some (0, false)))))))) (fun k => rfl) ?_
 refine Ev.bind (f := fun k t108 => (if t108 = true then (some ((0 : Int), true)) else ((lexis_in.f k keysB s).bind fun t109 => (if t109 = true then (some (1, true)) else ((letter_Name.f k s).bind fun t110 => (if t110 = true then (some (2, true)) else (some (0, false)))))))) (in_ev signsB s signs (by decide) fields_signs) ?_
 unfold sortL
 by_cases h1 : signs.contains s.data.toList = true
 ·rw [if_pos h1]
  exact Ev.congr (f := fun _ => some (0, true)) (fun k => by rw [if_pos h1]) (Ev.now _)
 ·rw [if_neg h1]
  refine Ev.congr (f := fun k => (lexis_in.f k keysB s).bind fun t109 => (if t109 = true then (some ((1 : Int), true)) else ((letter_Name.f k s).bind fun t110 => (if t110 = true then (some (2, true)) else (some (0, false)))))) (fun k => by rw [if_neg h1]) ?_
  refine Ev.bind (f := fun k t109 => (if t109 = true then (some ((1 : Int), true)) else ((letter_Name.f k s).bind fun t110 => (if t110 = true then (some (2, true)) else (some (0, false)))))) (in_ev keysB s keys (by decide) fields_keys) ?_
  by_cases h2 : keys.contains s.data.toList = true
  ·rw [if_pos h2]
   exact Ev.congr (f := fun _ => some (1, true)) (fun k => by rw [if_pos h2]) (Ev.now _)
  ·rw [if_neg h2]
   refine Ev.congr (f := fun k => (letter_Name.f k s).bind fun t110 => (if t110 = true then (some ((2 : Int), true)) else (some (0, false)))) (fun k => by rw [if_neg h2]) ?_
   refine Ev.bind (f := fun k t110 => (if t110 = true then (some ((2 : Int), true)) else (some (0, false)))) (name_ev s) ?_
   by_cases h3 : nameL s.data.toList = true
   ·rw [if_pos h3, if_pos h3]
    exact Ev.now _
   ·rw [if_neg h3, if_neg h3]
    exact Ev.now _
end Go.Proofs.YtaogoabnidbbpaaGreatDoor.PText
