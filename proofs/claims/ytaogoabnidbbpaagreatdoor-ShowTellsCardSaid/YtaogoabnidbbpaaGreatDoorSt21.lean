/- Texts of this work merged into one file, what the law does not need left out: Ref01; RefCheck. Conditions stand in each law. -/
import Derived.Test.YtaogoabnidbbpaaGreatDoorSt16
import Derived.Test.YtaogoabnidbbpaaGreatDoorSt20
namespace Go.Proofs.YtaogoabnidbbpaaGreatDoor.PText
open Go.RowKit Go.Proofs.YtaogoabnidbbpaaGreatDoorW.PrintWords Go.Proofs.YtaogoabnidbbpaaGreatDoorW.PrintLast Go.Proofs.YtaogoabnidbbpaaGreatDoorW.PrintMore
set_option linter.unusedVariables false
set_option linter.unusedSimpArgs false
theorem small_is (c : UInt8) : rejoinderref01_small.f (c.toNat : Int) = some (low c) := by
 unfold rejoinderref01_small.f low
 by_cases h : 97 ≤ c.toNat
 ·rw [if_pos (by omega), decide_eq_true h, Bool.true_and]
  congr 1
  exact decide_eq_decide.2 (by omega)
 ·rw [if_neg (by omega), decide_eq_false h, Bool.false_and]
theorem name2_loop (s : ByteArray) (hs : s.size ≤ 20) (d : Nat) : ∀ i : Nat, i + d = s.size → Ev (fun k => rejoinderref01_Name.l0 k s i) ((s.data.toList.drop i).all fun x => low x || dig x) := by
 have hsz := size_eq s
 induction d with
 | zero =>
  intro i hi
  rw [List.drop_of_length_le (by omega)]
  refine Ev.step (f := fun _ => some true) (fun k => ?_) (Ev.now _)
  simp only [rejoinderref01_Name.l0]
  rw [if_neg (by omega)]
 | succ d ih =>
  intro i hi
  have hil : i < s.data.toList.length := by omega
  have hw : wrap64 ((i : Int) + 1) = ((i + 1 : Nat) : Int) := by unfold wrap64; omega
  have hb := bt_of s i (by omega)
  obtain ⟨c, hc⟩ : ∃ c, c = s.data.toList[i] := ⟨_, rfl⟩
  rw [← hc] at hb
  rw [List.drop_eq_getElem_cons hil, List.all_cons, ← hc]
  have hn := ih (i + 1) (by omega)
  by_cases h1 : low c = true
  ·rw [h1, Bool.true_or, Bool.true_and]
   refine Ev.step (fun k => ?_) hn
   simp only [rejoinderref01_Name.l0]
   rw [if_pos (by omega), if_pos (by omega), hb, small_is, h1, Option.bind_some, if_pos rfl, hw]
  ·have h1' : low c = false := by simpa using h1
   by_cases h4 : dig c = true
   ·have h5 := (dig_iff c).1 h4
    rw [h4, Bool.or_true, Bool.true_and]
    refine Ev.step (fun k => ?_) hn
    simp only [rejoinderref01_Name.l0]
    rw [if_pos (by omega), if_pos (by omega), hb, small_is, h1', Option.bind_some, if_neg (by decide), if_neg (by omega), if_neg (by omega), hw]
   ·have h4' : dig c = false := by simpa using h4
    have h5 : ¬ (48 ≤ c.toNat ∧ c.toNat ≤ 57) := fun e => h4 ((dig_iff c).2 e)
    rw [h1', h4', Bool.or_false, Bool.false_and]
    refine Ev.step (f := fun _ => some false) (fun k => ?_) (Ev.now _)
    simp only [rejoinderref01_Name.l0]
    rw [if_pos (by omega), if_pos (by omega), hb, small_is, h1', Option.bind_some, if_neg (by decide)]
    by_cases h6 : c.toNat < 48
    ·rw [if_pos (by omega)]
    ·rw [if_neg (by omega), if_pos (by omega)]
theorem name2_ev (s : ByteArray) : Ev (fun k => rejoinderref01_Name.f k s) (nameL s.data.toList) := by
 have hsz := size_eq s
 have no : nameL s.data.toList = false → (∀ k, rejoinderref01_Name.f (k + 1) s = some false) → Ev (fun k => rejoinderref01_Name.f k s) (nameL s.data.toList) := by
  intro hb h
  rw [hb]
  exact Ev.step (f := fun _ => some false) h (Ev.now _)
 by_cases h1 : s.size < 1
 ·refine no (by unfold nameL; rw [decide_eq_false (by omega)]; rfl) (fun k => ?_)
  unfold rejoinderref01_Name.f
  rw [if_pos (by omega)]
  simp [rejoinderref01_Name.j0]
 by_cases h2 : s.size > 20
 ·refine no (by unfold nameL; rw [decide_eq_false (show ¬ s.data.toList.length ≤ 20 by omega)]; simp) (fun k => ?_)
  unfold rejoinderref01_Name.f
  rw [if_neg (by omega), if_pos (by omega)]
  simp [rejoinderref01_Name.j0]
 obtain ⟨c, t, ht⟩ : ∃ c t, s.data.toList = c :: t := by
  cases h : s.data.toList with
  | nil => rw [h] at hsz; simp at hsz; omega
  | cons c t => exact ⟨c, t, rfl⟩
 have hb : bt s 0 = (c.toNat : Int) := by
  have := bt_of s 0 (by omega)
  rw [show ((0 : Nat) : Int) = 0 from rfl] at this
  rw [this]
  simp only [ht, List.getElem_cons_zero]
 have e1 : ∀ k, rejoinderref01_Name.f k s = if low c = true then (if s.toList = [116, 114, 117, 101] then rejoinderref01_Name.j0 k s true else if s.toList = [102, 97, 108, 115, 101] then rejoinderref01_Name.j0 k s true else rejoinderref01_Name.j0 k s (s.toList == [108, 97, 115, 116])) else rejoinderref01_Name.j0 k s true := fun k => by
  unfold rejoinderref01_Name.f
  rw [if_neg (by omega), if_neg (by omega), if_pos (by omega), hb, small_is, Option.bind_some]
 have jt : ∀ k, rejoinderref01_Name.j0 (k + 1) s true = some false := fun k => by simp [rejoinderref01_Name.j0]
 have jf : ∀ k, rejoinderref01_Name.j0 (k + 1) s false = rejoinderref01_Name.l0 k s 0 := fun k => by simp [rejoinderref01_Name.j0]
 by_cases hl : low c = true
 ·by_cases h3 : s.data.toList = [116, 114, 117, 101]
  ·exact no (by unfold nameL; rw [h3]; rfl) (fun k => by rw [e1, if_pos hl, ByteArray.toList_eq, if_pos h3, jt])
  by_cases h4 : s.data.toList = [102, 97, 108, 115, 101]
  ·exact no (by unfold nameL; rw [h4]; rfl) (fun k => by rw [e1, if_pos hl, ByteArray.toList_eq, if_neg h3, if_pos h4, jt])
  by_cases h5 : s.data.toList = [108, 97, 115, 116]
  ·exact no (by unfold nameL; rw [h5]; rfl) (fun k => by rw [e1, if_pos hl, ByteArray.toList_eq, if_neg h3, if_neg h4, h5]; exact jt k)
  have hv : nameL s.data.toList = (s.data.toList.drop 0).all (fun x => low x || dig x) := by
   unfold nameL
   rw [decide_eq_true (by omega), decide_eq_true (by omega), beq_eq_false_iff_ne.2 h3, beq_eq_false_iff_ne.2 h4, beq_eq_false_iff_ne.2 h5, List.drop_zero, ht, List.all_cons, hl]
   simp [hl]
  rw [hv]
  refine Ev.step (fun k => ?_) (name2_loop s (by omega) s.size 0 (by omega))
  rw [e1, if_pos hl, ByteArray.toList_eq, if_neg h3, if_neg h4, beq_eq_false_iff_ne.2 h5, jf]
  rfl
 ·refine no ?_ (fun k => by rw [e1, if_neg hl, jt])
  unfold nameL
  rw [ht]
  simp [hl]
end Go.Proofs.YtaogoabnidbbpaaGreatDoor.PText
namespace Go.Proofs.YtaogoabnidbbpaaGreatDoor.PText
open Go.RowKit Go.Proofs.YtaogoabnidbbpaaGreatDoorW.PrintWords Go.Proofs.YtaogoabnidbbpaaGreatDoorW.PrintLast Go.Proofs.YtaogoabnidbbpaaGreatDoorW.PrintMore Go.Proofs.YtaogoabnidbbpaaGreatDoorW.Aid
set_option linter.unusedVariables false
set_option linter.unusedSimpArgs false
abbrev toLs (l : List ByteArray) : List Bs := l.map fun x => x.data.toList
theorem at_loop2 (xs : List ByteArray) (s : ByteArray) (hl : xs.length ≤ 4096) (d : Nat) : ∀ i : Nat, i + d = xs.length → ∃ r : Int, Ev (fun k => rejoinderref01_at.l0 k xs s i) r ∧ (0 ≤ r ↔ s.data.toList ∈ toLs (xs.drop i)) := by
 induction d with
 | zero =>
  intro i hi
  refine ⟨-1, Ev.step (f := fun _ => some (-1)) (fun k => ?_) (Ev.now _), ?_⟩
  ·simp only [rejoinderref01_at.l0]
   rw [if_neg (by omega)]
  ·rw [List.drop_of_length_le (by omega)]
   simp
 | succ d ih =>
  intro i hi
  have hil : i < xs.length := by omega
  have hw : wrap64 ((i : Int) + 1) = ((i + 1 : Nat) : Int) := by unfold wrap64; omega
  have hr : rdOf ByteArray.empty xs (i : Int) = xs[i] := by unfold rdOf; rw [Int.toNat_natCast]; simp [List.getD, List.getElem?_eq_getElem hil]
  by_cases he : xs[i].data.toList = s.data.toList
  ·refine ⟨(i : Int), Ev.step (f := fun _ => some (i : Int)) (fun k => ?_) (Ev.now _), ?_⟩
   ·simp only [rejoinderref01_at.l0]
    rw [if_pos (by omega), if_pos (by omega), hr, ByteArray.toList_eq, ByteArray.toList_eq, if_pos he]
   ·rw [List.drop_eq_getElem_cons hil]
    exact ⟨fun _ => by rw [toLs, List.map_cons, he]; exact List.mem_cons_self, fun _ => by omega⟩
  ·obtain ⟨r, h1, h2⟩ := ih (i + 1) (by omega)
   refine ⟨r, Ev.step (fun k => ?_) h1, ?_⟩
   ·simp only [rejoinderref01_at.l0]
    rw [if_pos (by omega), if_pos (by omega), hr, ByteArray.toList_eq, ByteArray.toList_eq, if_neg he, hw]
   ·rw [h2, List.drop_eq_getElem_cons hil]
    show _ ↔ s.data.toList ∈ xs[i].data.toList :: toLs (xs.drop (i + 1))
    rw [List.mem_cons]
    exact ⟨.inr, fun h => h.resolve_left (fun e => he e.symm)⟩
def rejoinderref01_Check.f (l0 : List ByteArray) : Option Int := some (chk l0)
set_option maxHeartbeats 8000000 in
set_option maxRecDepth 100000 in
theorem rejoinderref01_Check.calls (A0 : Option Addr) (c0 : Nat) (l0 : List ByteArray) (r : Int) (w : World) (hr0 : Kd.C Kd.string w A0 l0.length l0) (hc0 : l0.length ≤ c0) (h : rejoinderref01_Check.f l0 = some r) :
  Calls Tryz.prog 16 #[.slice A0 l0.length c0] w fun e w' => e = .returned (.int .i64 r) ∧ Drawn0 w w' := by
 obtain rfl : chk l0 = r := Option.some.inj h
 have HR := Aside0.mk (And.intro hr0 hc0)
 clear h hr0 hc0
 by_cases hl : l0.length > 8
 ·have c1 : decide ((l0.length : Int) > 8) = true := decide_eq_true (by omega)
  have c2 : decide (8 < l0.length) = true := decide_eq_true hl
  rw [show chk l0 = 3 by unfold chk; rw [if_pos hl]]
  clear hl
  go_enter Tryz.func16, Tryz.ntmps16
  go_wp2
  go_ret
  exact ⟨rfl, by repeat (first | exact Drawn0.refl _ | apply Drawn0.step)⟩
 ·have c1 : decide ((l0.length : Int) > 8) = false := decide_eq_false (by omega)
  have c2 : decide (8 < l0.length) = false := decide_eq_false hl
  have HL : Aside0 (l0.length ≤ 8) := ⟨by omega⟩
  rw [show chk l0 = chkFrom [] l0 by unfold chk; rw [if_neg hl]]
  clear hl
  go_enter Tryz.func16, Tryz.ntmps16
  go_wp2
  clear c1 c2
  go_loopg [3] l0.length (fun kq v3 w' => ∃ i nd : Nat, v3 = .int .i64 (i : Int) ∧ Aside0 (i + kq = l0.length) ∧ Aside0 (chkFrom (toLs (l0.take i)) (l0.drop i) = chkFrom [] l0) ∧ w' = w.drewN nd)
  case atStart => exact ⟨0, 0, rfl, ⟨by omega⟩, ⟨rfl⟩, rfl⟩
  case round =>
   obtain ⟨i, nd, rfl, hi, hx, rfl⟩ := hrel
   cases gk with
   | zero =>
    have hil : i = l0.length := by have := hi.out; omega
    subst hil
    have hxx := hx.out
    rw [List.drop_length, chkFrom] at hxx
    have HXX := Aside0.mk hxx
    clear hxx hx hi
    go_wp2
    go_ret
    exact ⟨by rw [← HXX.out]; rfl, ⟨_, by first | rfl | exact World.drewN_drewN _ _ _⟩⟩
   | succ k1 =>
    have hil : i < l0.length := by have := hi.out; omega
    obtain ⟨ad, ead, y0⟩ := Kd.at_string HR.out.1 (i : Int) (by omega) (by omega)
    rw [Int.toNat_natCast] at y0
    have er : rdOf ByteArray.empty l0 (i : Int) = l0[i] := by unfold rdOf; rw [Int.toNat_natCast]; simp [List.getD, List.getElem?_eq_getElem hil]
    rw [er] at y0
    subst ead
    have hxx := hx.out
    rw [List.drop_eq_getElem_cons hil, chk_cons] at hxx
    obtain ⟨s, hs⟩ : ∃ s, s = l0[i] := ⟨_, rfl⟩
    rw [← hs] at y0 hxx
    have m1 : decide ((i : Int) < (l0.length : Int)) = true := decide_eq_true (by omega)
    have m2 := eq_true (show (0 : Int) ≤ (i : Int) by omega)
    have m3 := eq_true hil
    have m4 := eq_true (show (i : Int) ≤ (c0 : Int) by have := HR.out.2; omega)
    have m5 := eq_true (show i ≤ c0 by have := HR.out.2; omega)
    obtain ⟨kn, hkn⟩ := (name2_ev s).rounds
    have HNM := Aside0.mk hkn
    have hw : Aside0 (wrap64 ((i : Int) + 1) = ((i + 1 : Nat) : Int)) := ⟨by have := HL.out; unfold wrap64; omega⟩
    have hi1 : Aside0 (i + 1 + k1 = l0.length) := ⟨by have := hi.out; omega⟩
    by_cases hn : nameL s.data.toList = false
    ·rw [if_pos hn] at hxx
     have HXX := Aside0.mk hxx
     rw [hn] at HNM
     clear hn hxx hx hi hil er hs hkn
     go_wp2_with (go_at_call 29; refine (rejoinderref01_Name.calls kn s false _ HNM.out).mono ?_; rintro e w' ⟨rfl, ⟨n2, rfl⟩⟩)
     go_ret
     exact ⟨by rw [← HXX.out]; rfl, ⟨_, by first | rfl | exact World.drewN_drewN _ _ _⟩⟩
    ·rw [if_neg hn] at hxx
     have hn' : nameL s.data.toList = true := by simpa using hn
     rw [hn'] at HNM
     obtain ⟨ra, h1, h2⟩ := at_loop2 (l0.take i) s (by have := HL.out; rw [List.length_take]; omega) (l0.take i).length 0 (by omega)
     obtain ⟨ka, hka⟩ := h1.rounds
     have HAT := Aside0.mk (show rejoinderref01_at.f ka (l0.take i) s = some ra from hka)
     rw [List.drop_zero] at h2
     have hlt : (l0.take i).length = i := by rw [List.length_take]; omega
     have HATC := Aside0.mk (fun nd => show Calls Tryz.prog 30 #[.slice (some ad) i c0, .string s] (w.drewN nd) (fun e w' => e = .returned (.int .i64 ra) ∧ Drawn0 (w.drewN nd) w') from by
      have h := rejoinderref01_at.calls ka (some ad) c0 (l0.take i) s ra (w.drewN nd) (Kd.C_drewN (Kd.C_take HR.out.1 (by omega)) nd) (by rw [hlt]; have := HR.out.2; omega) HAT.out
      rw [hlt] at h
      exact h)
     by_cases hm : s.data.toList ∈ toLs (l0.take i)
     ·rw [if_pos hm] at hxx
      have HXX := Aside0.mk hxx
      have q1 : decide (0 ≤ ra) = true := decide_eq_true (h2.2 hm)
      have q2 := eq_true (h2.2 hm)
      clear hn hn' hxx hx hi hil er hs hkn hm h1 h2 hka hlt
      go_wp2_with (go_at_call 29; refine (rejoinderref01_Name.calls kn s true _ HNM.out).mono ?_; rintro e w' ⟨rfl, ⟨n2, rfl⟩⟩)
      go_quiet (first | (go_at_call 30; refine (HATC.out _).mono ?_; rintro e w' ⟨rfl, ⟨n3, rfl⟩⟩; exact ⟨rfl, _, by rw [World.drewN_drewN, Nat.add_assoc]⟩))
      go_wp2
      go_ret
      exact ⟨by rw [← HXX.out]; rfl, ⟨_, by first | rfl | exact World.drewN_drewN _ _ _⟩⟩
     ·rw [if_neg hm] at hxx
      have HXX : Aside0 (chkFrom (toLs (l0.take (i + 1))) (l0.drop (i + 1)) = chkFrom [] l0) := ⟨by
       rw [← hxx, List.take_add_one, List.getElem?_eq_getElem hil, ← hs]
       show chkFrom (toLs (l0.take i ++ [s])) _ = _
       rw [toLs, List.map_append]
       rfl⟩
      have hr0 : ¬ 0 ≤ ra := fun h => hm (h2.1 h)
      have q1 : decide (0 ≤ ra) = false := decide_eq_false hr0
      have q2 := eq_false hr0
      clear hn hn' hxx hx hi hil er hs hkn hm h1 h2 hka hlt hr0
      go_wp2_with (go_at_call 29; refine (rejoinderref01_Name.calls kn s true _ HNM.out).mono ?_; rintro e w' ⟨rfl, ⟨n2, rfl⟩⟩)
      go_quiet (first | (go_at_call 30; refine (HATC.out _).mono ?_; rintro e w' ⟨rfl, ⟨n3, rfl⟩⟩; exact ⟨rfl, _, by rw [World.drewN_drewN, Nat.add_assoc]⟩))
      go_wp2
      go_roundg k1
      case measure => exact Nat.lt_succ_self _
      case rel => exact ⟨i + 1, _, by first | rfl | (show Value.int .i64 (wrap64 _) = _; rw [hw.out]), hi1, HXX, by first | rfl | exact World.drewN_drewN _ _ _⟩
end Go.Proofs.YtaogoabnidbbpaaGreatDoor.PText
