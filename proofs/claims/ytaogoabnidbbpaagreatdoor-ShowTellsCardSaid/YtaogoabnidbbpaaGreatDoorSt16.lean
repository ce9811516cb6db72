/- Texts of this work merged into one file, what the law does not need left out: TextCheck; TextCheckF. Conditions stand in each law. -/
import Derived.Maps.OwnOps
import Derived.Maps.Views
import Derived.Test.YtaogoabnidbbpaaGreatDoorSt8
import Derived.Test.YtaogoabnidbbpaaGreatDoorSt11
namespace Go.Proofs.YtaogoabnidbbpaaGreatDoor.PText
open Go.RowKit Go.Proofs.YtaogoabnidbbpaaGreatDoorW.PrintWords Go.Proofs.YtaogoabnidbbpaaGreatDoorW.PrintLast Go.Proofs.YtaogoabnidbbpaaGreatDoorW.PrintMore Go.Proofs.YtaogoabnidbbpaaGreatDoorW.Aid
set_option linter.unusedVariables false
set_option linter.unusedSimpArgs false
/-- What is told of names, some having been seen. -/
def chkFrom : List Bs → List ByteArray → Int
 | _, [] => 0
 | seen, s :: t => if nameL s.data.toList = false then 4 else if s.data.toList ∈ seen then 5 else chkFrom (seen ++ [s.data.toList]) t
def chk (names : List ByteArray) : Int := if names.length > 8 then 3 else chkFrom [] names
theorem chk_cons (seen : List Bs) (s : ByteArray) (t : List ByteArray) : chkFrom seen (s :: t) = if nameL s.data.toList = false then 4 else if s.data.toList ∈ seen then 5 else chkFrom (seen ++ [s.data.toList]) t := by rw [chkFrom]
theorem plainElem_bool_inv {H : Type} {P : Program} {e : TypeId} (he : P.underlying e = some .bool) {v : Value} {z : DataW H × List MemPlace} (h : plainElem P e v = some z) : ∃ b, v = .bool b ∧ z = (.lit (.bool b), []) := by
 unfold plainElem at h
 rw [he] at h
 cases v <;> simp at h
 exact ⟨_, rfl, h.symm⟩
theorem lookup_own_bool {H : Type} {P : Program} (w : World) {ops : Array Oper} {rest : List Oper} {o : Oper} {a : Act} {Q : Exit → Act → World → Prop}
  (hg : o.guard = none) (m x : Operand) (t : TypeId) (hop : o.op = Op.lookup t m x false)
  (k e : TypeId) (K : Maps.Keyed P k) (ht : P.underlying t = some (.map k e)) (he : P.underlying e = some .bool) (hz : (zeroValue e).run P w = .ok (.bool false) w) (b n : Nat) (D : DataW H)
  (hm : a.eval m = .map (some b)) (hown : w.ownsMap P k (plainElem P e) b n D) (key : Value) (kl : Lit) (hx : a.eval x = key) (hkey : keyOf P k key = some kl)
  (c : Bool) (hat : D.atKey kl (.lit (.bool false)) = .lit (.bool c))
  (hK : wpList P ops Q rest (a.put o.dst (.bool c)) w) :
  wpList P ops Q (o :: rest) a w := by
 refine wpList_plain hg fun K' hK' => ?_
 obtain ⟨v, ps, hrun, hv⟩ := hown.lookup K ht hz (plainElem_bool he false) hkey
 obtain ⟨c', rfl, hc⟩ := plainElem_bool_inv he hv
 simp only [Prod.mk.injEq] at hc
 have h1 := hc.1
 rw [hat] at h1
 have h2 : c' = c := by injection h1 with h1; injection h1 with h1; exact h1.symm
 subst h2
 unfold Oper.wp
 simp [execOp, hop, hm, hx, hrun, Result.andThen]
 exact hK' _ _ hK
theorem law9 : Maps.Keyed Tryz.prog 9 := Maps.string_keyed Tryz.underlying9
theorem zero4 (w : World) : (zeroValue 4).run Tryz.prog w = .ok (.bool false) w := by kernel_rfl
theorem owns_drewN {H : Type} {w : World} {P : Program} {k : TypeId} {R : Value → Option (DataW H × List MemPlace)} {b n : Nat} {D : DataW H} (h : w.ownsMap P k R b n D) (m : Nat) : (w.drewN m).ownsMap P k R b n D := by
 obtain ⟨es, clock, hb, r⟩ := h
 exact ⟨es, clock, blk_drewN hb m, r⟩
/-- The map bears just these names. -/
def Bears (D : DataW Unit) (seen : List Bs) : Prop := Maps.IsMap D ∧ ∀ s : Bs, D.atKey (.string s) (.lit (.bool false)) = .lit (.bool (decide (s ∈ seen)))
theorem bears_nil : Bears (.map []) [] := ⟨Maps.isMap_empty, fun s => by rw [WideAt.atKey_none _ (fun p hp => by cases hp)]; rfl⟩
theorem bears_put {D : DataW Unit} {seen : List Bs} (h : Bears D seen) (s : Bs) : Bears (D.put (.string s) (.lit (.bool true))) (seen ++ [s]) := by
 refine ⟨h.1.put _ _, fun z => ?_⟩
 by_cases hz : z = s
 ·subst hz
  rw [Maps.atKey_put_same h.1 (by simp [WideAt.IsKeyLit])]
  rw [decide_eq_true (List.mem_append_right _ List.mem_cons_self)]
 ·rw [Maps.atKey_put_other (fun e => hz (by injection e)), h.2]
  have : (z ∈ seen ++ [s]) = (z ∈ seen) := by simp [hz]
  simp only [this]
set_option maxHeartbeats 8000000 in
set_option maxRecDepth 100000 in
theorem check_long (A : Option Addr) (c : Nat) (names : List ByteArray) (hl : names.length > 8) (w : World) :
  Calls Tryz.prog 13 #[.slice A names.length c] w fun e w' => e = .returned (.int .i64 3) ∧ Below w.heap.size w w' := by
 have c1 : decide ((names.length : Int) > 8) = true := decide_eq_true (by omega)
 have c2 : decide ((8 : Int) < (names.length : Int)) = true := decide_eq_true (by omega)
 clear hl
 go_enter Tryz.func13, Tryz.ntmps13
 go_wp2
 go_ret
 exact ⟨rfl, Below.refl _ _⟩
set_option maxHeartbeats 8000000 in
set_option maxRecDepth 100000 in
theorem check_short (A : Option Addr) (c : Nat) (names : List ByteArray) (hl : names.length ≤ 8) (w : World) (hr : Kd.C Kd.string w A names.length names) :
  Calls Tryz.prog 13 #[.slice A names.length c] w fun e w' => e = .returned (.int .i64 (chkFrom [] names)) ∧ Below w.heap.size w w' := by
 have HR := Aside0.mk hr
 have HL := Aside0.mk hl
 have c1 : decide ((names.length : Int) > 8) = false := decide_eq_false (by omega)
 have c2 : decide ((8 : Int) < (names.length : Int)) = false := decide_eq_false (by omega)
 have hmm := @run_makeMap Tryz.prog
 clear hl hr
 go_enter Tryz.func13, Tryz.ntmps13
 go_wp2
 go_loopg [12] (names.length + 1) (fun kq v12 w' => ∃ (i : Nat) (seen : List Bs) (D : DataW Unit), v12 = .int .i64 (i : Int) ∧ Aside0 (i + kq = names.length + 1) ∧ Aside0 (chkFrom seen (names.drop i) = chkFrom [] names) ∧ Aside0 (w'.ownsMap Tryz.prog 9 (plainElem Tryz.prog 4) w.heap.size i D) ∧ Aside0 (Bears D seen) ∧ Aside0 (Below w.heap.size w w'))
 case atStart => exact ⟨0, [], .map [], rfl, ⟨by omega⟩, ⟨rfl⟩, ⟨World.ownsMap_made _ _ _ _⟩, ⟨bears_nil⟩, ⟨below_alloc (Below.refl _ _) _⟩⟩
 case round =>
  clear c1 c2
  obtain ⟨i, seen, D, rfl, hi, hq, HO, HD, HB⟩ := hrel
  cases gk with
  | zero =>
   have hi0 : i = names.length + 1 := by have := hi.out; omega
   have c3 : decide (i < names.length) = false := decide_eq_false (by omega)
   have hv : Aside0 (chkFrom [] names = 0) := ⟨by rw [← hq.out, hi0, List.drop_of_length_le (by omega), chkFrom]⟩
   clear hi0 hi hq HO HD
   go_wp2
   go_ret
   exact ⟨(congrArg (fun z => Ending.returned (.int .i64 z)) hv.out).symm, HB.out⟩
  | succ k1 =>
   by_cases hil : i < names.length
   ·obtain ⟨x, hx⟩ : ∃ x, x = names[i] := ⟨_, rfl⟩
    have hd := List.drop_eq_getElem_cons hil
    rw [← hx] at hd
    have hq0 := hq.out
    rw [hd, chk_cons] at hq0
    have c3 : decide (i < names.length) = true := decide_eq_true (by omega)
    have c4 := eq_true hil
    have g1 := eq_true (show (0 : Int) ≤ (i : Int) by omega)
    have g2 := eq_true (show (i : Int) < (names.length : Int) by omega)
    have hrd : rdOf ByteArray.empty names (i : Int) = x := by
     unfold rdOf
     rw [Int.toNat_natCast, hx]
     simp [List.getD, List.getElem?_eq_getElem hil]
    obtain ⟨ad, ead, hx0⟩ := Kd.at_string HR.out (i : Int) (by omega) (by omega)
    cases ead
    rw [hrd, Int.toNat_natCast] at hx0
    have y0 : World.cell? _ _ = some (.string x) := (HB.out.cell (World.block_lt_of_cell? w _ hx0)).trans hx0
    obtain ⟨kn, hkn⟩ := (name_ev x).rounds
    clear hx0 hrd hd hq
    by_cases hn : nameL x.data.toList = false
    ·rw [if_pos hn] at hq0
     have HQ := Aside0.mk hq0
     have HN := Aside0.mk (show letter_Name.f kn x = some false from hn ▸ hkn)
     clear hq0 hn hkn hx hil hi HO HD
     go_wp2_with (go_at_call 24; refine (letter_Name.calls kn x false _ HN.out).mono ?_; rintro e w' ⟨rfl, ⟨nd, rfl⟩⟩)
     go_ret
     exact ⟨congrArg (fun z => Ending.returned (.int .i64 z)) HQ.out, pw_below_drewN HB.out nd⟩
    ·rw [if_neg hn] at hq0
     have hn1 : nameL x.data.toList = true := by simpa using hn
     have HN := Aside0.mk (show letter_Name.f kn x = some true from hn1 ▸ hkn)
     have hsz : x.size ≤ 20 := by
      unfold nameL at hn1
      simp only [Bool.and_eq_true, decide_eq_true_eq] at hn1
      rw [← size_eq]
      exact hn1.1.1.1.1.2
     have hkey : Aside0 (keyOf Tryz.prog 9 (.string x) = some (.string x.data.toList)) := ⟨WideMaps.keyOf_string_mk Tryz.underlying9 (by unfold maxLen; omega)⟩
     by_cases hs : x.data.toList ∈ seen
     ·rw [if_pos hs] at hq0
      have HQ := Aside0.mk hq0
      have hat := Aside0.mk (HD.out.2 x.data.toList)
      rw [decide_eq_true hs] at hat
      clear hq0 hn hn1 hkn hx hil hi HD hsz hs
      go_wp2_with (first | (go_at_call 24; refine (letter_Name.calls kn x true _ HN.out).mono ?_; rintro e w' ⟨rfl, ⟨nd, rfl⟩⟩) | (at_lookup; refine lookup_own_bool _ rfl _ _ 48 rfl 9 4 law9 Tryz.underlying48 Tryz.underlying4 (zero4 _) w.heap.size i D rfl (owns_drewN HO.out nd) _ _ rfl hkey.out true hat.out ?_))
      go_ret
      exact ⟨congrArg (fun z => Ending.returned (.int .i64 z)) HQ.out, pw_below_drewN HB.out nd⟩
     ·rw [if_neg hs] at hq0
      have HQ := Aside0.mk hq0
      have hat := Aside0.mk (HD.out.2 x.data.toList)
      rw [decide_eq_false hs] at hat
      have hil2 := Aside0.mk hil
      clear hq0 hn hn1 hkn hx hil hsz hs
      go_wp2_with (first | (go_at_call 24; refine (letter_Name.calls kn x true _ HN.out).mono ?_; rintro e w' ⟨rfl, ⟨nd, rfl⟩⟩) | (at_lookup; refine lookup_own_bool _ rfl _ _ 48 rfl 9 4 law9 Tryz.underlying48 Tryz.underlying4 (zero4 _) w.heap.size i D rfl (owns_drewN HO.out nd) _ _ rfl hkey.out false hat.out ?_) | (at_mapUpdate; refine wpList_mapUpdate_own _ rfl _ _ _ 48 rfl 9 4 law9 Tryz.underlying48 _ w.heap.size i D rfl (owns_drewN HO.out nd) (by unfold maxLen; have := hil2.out; have := HL.out; omega) _ _ _ rfl rfl hkey.out (.lit (.bool true)) [] (plainElem_bool Tryz.underlying4 true) ?_; intro w1 hown1 hgrow1; have HO1 := Aside0.mk hown1; have HB1 := Aside0.mk ((pw_below_drewN HB.out nd).grown hgrow1 (pw_below_drewN HB.out nd).size (fun j hj => by cases hj; exact Nat.le_refl _)); clear hown1 hgrow1))
      go_roundg k1
      case measure => exact Nat.lt_succ_self _
      case rel => exact ⟨i + 1, seen ++ [x.data.toList], _, by show Value.int .i64 (wrap64 _) = _; congr 1; have := hil2.out; have := HL.out; unfold wrap64; omega, ⟨by have := hi.out; omega⟩, HQ, HO1, ⟨bears_put HD.out _⟩, HB1⟩
   ·have c3 : decide (i < names.length) = false := decide_eq_false (by omega)
    have hv : Aside0 (chkFrom [] names = 0) := ⟨by rw [← hq.out, List.drop_of_length_le (by omega), chkFrom]⟩
    clear hi hq HO HD hil
    go_wp2
    go_ret
    exact ⟨(congrArg (fun z => Ending.returned (.int .i64 z)) hv.out).symm, HB.out⟩
theorem check_calls (A : Option Addr) (c : Nat) (names : List ByteArray) (w : World) (hr : Kd.C Kd.string w A names.length names) :
  Calls Tryz.prog 13 #[.slice A names.length c] w fun e w' => e = .returned (.int .i64 (chk names)) ∧ Below w.heap.size w w' := by
 unfold chk
 by_cases hl : names.length > 8
 ·rw [if_pos hl]; exact check_long A c names hl w
 ·rw [if_neg hl]; exact check_short A c names (by omega) w hr
def letter_Check.f (names : List ByteArray) : Option Int := some (chk names)
theorem letter_Check.calls (A0 : Option Addr) (c0 : Nat) (l0 : List ByteArray) (r : Int) (w : World) (hr0 : Kd.C Kd.string w A0 l0.length l0) (hc0 : l0.length ≤ c0) (h : letter_Check.f l0 = some r) :
  Calls Tryz.prog 13 #[.slice A0 l0.length c0] w fun e w' => e = .returned (.int .i64 r) ∧ Below w.heap.size w w' := by
 cases h
 exact check_calls A0 c0 l0 w hr0
end Go.Proofs.YtaogoabnidbbpaaGreatDoor.PText
