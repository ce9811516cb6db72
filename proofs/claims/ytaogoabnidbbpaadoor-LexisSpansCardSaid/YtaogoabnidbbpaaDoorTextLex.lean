/- The words of a text, as plain functions on lists of bytes; what the printed functions of lexis compute is that. Conditions stand in each law. -/
import Derived.Test.YtaogoabnidbbpaaDoorPTextx4
namespace Go.Proofs.YtaogoabnidbbpaaDoor.PText
open Go.RowKit Go.Proofs.YtaogoabnidbbpaaDoorW.PrintWords Go.Proofs.YtaogoabnidbbpaaDoorW.PrintLast Go.Proofs.YtaogoabnidbbpaaDoorW.PrintMore
set_option linter.unusedVariables false
abbrev Bs := List UInt8
def signs : List Bs := [[40], [41], [91], [93], [123], [125], [60], [62], [33], [63], [38], [124], [43], [59], [42], [45, 62], [60, 45, 62]]
def keys : List Bs := [[88], [78], [70], [71], [85], [82], [116, 114, 117, 101], [102, 97, 108, 115, 101], [108, 97, 115, 116]]
def signsB : ByteArray := ⟨#[40, 32, 41, 32, 91, 32, 93, 32, 123, 32, 125, 32, 60, 32, 62, 32, 33, 32, 63, 32, 38, 32, 124, 32, 43, 32, 59, 32, 42, 32, 45, 62, 32, 60, 45, 62]⟩
def keysB : ByteArray := ⟨#[88, 32, 78, 32, 70, 32, 71, 32, 85, 32, 82, 32, 116, 114, 117, 101, 32, 102, 97, 108, 115, 101, 32, 108, 97, 115, 116]⟩
theorem fields_signs : strings_Fields.f signsB = some (signs.map bytesB) := by
  unfold strings_Fields.f
  rw [if_pos (by decide), if_pos (by decide), show Lib.fields signsB.data.toList = signs by decide +kernel]
theorem fields_keys : strings_Fields.f keysB = some (keys.map bytesB) := by
  unfold strings_Fields.f
  rw [if_pos (by decide), if_pos (by decide), show Lib.fields keysB.data.toList = keys by decide +kernel]
/-- A small letter; a digit; a letter or a digit. -/
def low (c : UInt8) : Bool := decide (97 ≤ c.toNat) && decide (c.toNat ≤ 122)
def dig (c : UInt8) : Bool := decide (48 ≤ c.toNat) && decide (c.toNat ≤ 57)
def wordB (c : UInt8) : Bool := low c || (decide (65 ≤ c.toNat) && decide (c.toNat ≤ 90)) || dig c
/-- May a text be a name? -/
def nameL (l : Bs) : Bool := decide (1 ≤ l.length) && decide (l.length ≤ 20) && !(l == [116, 114, 117, 101]) && !(l == [102, 97, 108, 115, 101]) && !(l == [108, 97, 115, 116]) &&
  (match l with | [] => true | c :: t => low c && t.all fun x => low x || dig x)
/-- Which sort of word a text is. -/
def sortL (l : Bs) : Int × Bool := if signs.contains l = true then (0, true) else if keys.contains l = true then (1, true) else if nameL l = true then (2, true) else (0, false)
theorem bytes_eq (l : Bs) : (bytesB l).toList = l := by rw [ByteArray.toList_eq]; rfl
theorem eq_bytes (s : ByteArray) : bytesB s.data.toList = s := rfl
theorem size_eq (s : ByteArray) : s.data.toList.length = s.size := by rw [Array.length_toList]; rfl
theorem in_loop (s : ByteArray) (xs : List Bs) (hx : xs.length ≤ 1000000) (d : Nat) : ∀ i : Nat, i + d = xs.length →
    Ev (fun k => lexis_in.l0 k s (xs.map bytesB) xs.length i) ((xs.drop i).contains s.data.toList) := by
  induction d with
  | zero =>
    intro i hi
    rw [List.drop_of_length_le (by omega)]
    refine Ev.step (f := fun _ => some false) (fun k => ?_) (Ev.now _)
    simp only [lexis_in.l0]
    rw [if_neg (by omega)]
  | succ d ih =>
    intro i hi
    have hil : i < xs.length := by omega
    have hw : wrap64 ((i : Int) + 1) = ((i + 1 : Nat) : Int) := by unfold wrap64; omega
    have hr : rdOf ByteArray.empty (xs.map bytesB) (i : Int) = bytesB xs[i] := by unfold rdOf; rw [Int.toNat_natCast]; simp [List.getD_eq_getElem?_getD, hil]
    rw [List.drop_eq_getElem_cons hil, List.contains_cons]
    by_cases he : xs[i] = s.data.toList
    · refine Ev.step (f := fun _ => some true) (fun k => ?_) (by rw [he]; simpa using Ev.now true)
      simp only [lexis_in.l0]
      rw [if_pos (by omega), if_pos (by omega), if_pos (by simp; omega), hr, bytes_eq, ByteArray.toList_eq, if_pos he]
    · have hne : (s.data.toList == xs[i]) = false := by
        rw [beq_eq_false_iff_ne]
        exact fun e => he e.symm
      rw [hne, Bool.false_or]
      refine Ev.step (fun k => ?_) (ih (i + 1) (by omega))
      simp only [lexis_in.l0]
      rw [if_pos (by omega), if_pos (by omega), if_pos (by simp; omega), hr, bytes_eq, ByteArray.toList_eq, if_neg he, hw]
theorem in_ev (t s : ByteArray) (xs : List Bs) (hx : xs.length ≤ 1000000) (h : strings_Fields.f t = some (xs.map bytesB)) : Ev (fun k => lexis_in.f k t s) (xs.contains s.data.toList) := by
  refine Ev.congr (f := fun k => lexis_in.l0 k s (xs.map bytesB) xs.length 0) (fun k => ?_) (in_loop s xs hx xs.length 0 (by omega))
  unfold lexis_in.f
  rw [h]
  simp only [Option.bind_some, List.length_map]
theorem bt_of (s : ByteArray) (i : Nat) (h : i < s.size) : bt s i = ((s.data.toList[i]'(by rw [size_eq]; exact h)).toNat : Int) := by
  unfold bt
  rw [dif_pos (by simpa using h)]
  rfl
theorem low_iff (c : UInt8) : low c = true ↔ 97 ≤ c.toNat ∧ c.toNat ≤ 122 := by unfold low; simp
theorem dig_iff (c : UInt8) : dig c = true ↔ 48 ≤ c.toNat ∧ c.toNat ≤ 57 := by unfold dig; simp
/-- From the place i on. -/
def tailName (l : Bs) (i : Nat) : Bool := if i = 0 then (match l with | [] => true | c :: t => low c && t.all fun x => low x || dig x) else (l.drop i).all fun x => low x || dig x
theorem name_loop (s : ByteArray) (hs : s.size ≤ 20) (d : Nat) : ∀ i : Nat, i + d = s.size → Ev (fun k => letter_Name.l0 k s s.size i) (tailName s.data.toList i) := by
  have hsz := size_eq s
  induction d with
  | zero =>
    intro i hi
    have : tailName s.data.toList i = true := by
      unfold tailName
      split
      · rename_i h0
        have hz : s.data.toList = [] := List.eq_nil_of_length_eq_zero (by omega)
        rw [hz]
      · rw [List.drop_of_length_le (by omega)]; rfl
    rw [this]
    refine Ev.step (f := fun _ => some true) (fun k => ?_) (Ev.now _)
    simp only [letter_Name.l0]
    rw [if_neg (by omega)]
  | succ d ih =>
    intro i hi
    have hil : i < s.data.toList.length := by omega
    have hw : wrap64 ((i : Int) + 1) = ((i + 1 : Nat) : Int) := by unfold wrap64; omega
    have hb := bt_of s i (by omega)
    obtain ⟨c, hc⟩ : ∃ c, c = s.data.toList[i] := ⟨_, rfl⟩
    rw [← hc] at hb
    have next : tailName s.data.toList (i + 1) = ((s.data.toList.drop (i + 1)).all fun x => low x || dig x) := by unfold tailName; rw [if_neg (by omega)]
    have here : tailName s.data.toList i = ((if i = 0 then low c else low c || dig c) && tailName s.data.toList (i + 1)) := by
      rw [next]
      unfold tailName
      by_cases h0 : i = 0
      · subst h0
        rw [if_pos rfl, if_pos rfl]
        cases hl : s.data.toList with
        | nil => rw [hl] at hil; simp at hil
        | cons x t => simp only [hl] at hc; subst hc; rfl
      · rw [if_neg h0, if_neg h0, List.drop_eq_getElem_cons hil, List.all_cons, hc]
    rw [here]
    have hn := ih (i + 1) (by omega)
    by_cases h1 : low c = true
    · have h2 := (low_iff c).1 h1
      rw [show ((if i = 0 then low c else low c || dig c) && tailName s.data.toList (i + 1)) = tailName s.data.toList (i + 1) by rw [h1]; simp]
      refine Ev.step (fun k => ?_) hn
      simp only [letter_Name.l0]
      rw [if_pos (by omega), if_pos (by omega), if_pos (by omega), hb, if_neg (by omega), if_neg (by omega), hw]
    · have h1' : low c = false := by simpa using h1
      have h2 : ¬ (97 ≤ c.toNat ∧ c.toNat ≤ 122) := fun e => h1 ((low_iff c).2 e)
      by_cases h0 : i = 0
      · rw [show ((if i = 0 then low c else low c || dig c) && tailName s.data.toList (i + 1)) = false by rw [if_pos h0, h1']; rfl]
        refine Ev.step (f := fun _ => some false) (fun k => ?_) (Ev.now _)
        simp only [letter_Name.l0]
        rw [if_pos (by omega), if_pos (by omega), if_pos (by omega), hb]
        by_cases h3 : c.toNat < 97
        · rw [if_pos (by omega), if_pos (by omega)]
        · rw [if_neg (by omega), if_pos (by omega), if_pos (by omega)]
      · by_cases h4 : dig c = true
        · have h5 := (dig_iff c).1 h4
          rw [show ((if i = 0 then low c else low c || dig c) && tailName s.data.toList (i + 1)) = tailName s.data.toList (i + 1) by rw [if_neg h0, h4]; simp]
          refine Ev.step (fun k => ?_) hn
          simp only [letter_Name.l0]
          rw [if_pos (by omega), if_pos (by omega), if_pos (by omega), hb, if_pos (by omega), if_neg (by omega), if_neg (by omega), if_neg (by omega), hw]
        · have h4' : dig c = false := by simpa using h4
          have h5 : ¬ (48 ≤ c.toNat ∧ c.toNat ≤ 57) := fun e => h4 ((dig_iff c).2 e)
          rw [show ((if i = 0 then low c else low c || dig c) && tailName s.data.toList (i + 1)) = false by rw [if_neg h0, h1', h4']; rfl]
          refine Ev.step (f := fun _ => some false) (fun k => ?_) (Ev.now _)
          simp only [letter_Name.l0]
          rw [if_pos (by omega), if_pos (by omega), if_pos (by omega), hb]
          by_cases h3 : c.toNat < 97
          · rw [if_pos (by omega), if_neg (by omega)]
            by_cases h6 : c.toNat < 48
            · rw [if_pos (by omega)]
            · rw [if_neg (by omega), if_pos (by omega)]
          · rw [if_neg (by omega), if_pos (by omega), if_neg (by omega), if_neg (by omega), if_pos (by omega)]
theorem name_ev (s : ByteArray) : Ev (fun k => letter_Name.f k s) (nameL s.data.toList) := by
  have hsz := size_eq s
  have no : ∀ (b : Bool), nameL s.data.toList = b → b = false → (∀ k, letter_Name.f (k + 1) s = some false) → Ev (fun k => letter_Name.f k s) (nameL s.data.toList) := by
    intro b hb hf h
    rw [hb, hf]
    exact Ev.step (f := fun _ => some false) h (Ev.now _)
  by_cases h1 : s.size < 1
  · refine no false (by unfold nameL; rw [decide_eq_false (by omega)]; rfl) rfl (fun k => ?_)
    unfold letter_Name.f
    rw [if_pos (by omega)]
    simp [letter_Name.j0]
  by_cases h2 : s.size > 20
  · refine no false (by unfold nameL; rw [decide_eq_false (show ¬ s.data.toList.length ≤ 20 by omega)]; simp) rfl (fun k => ?_)
    unfold letter_Name.f
    rw [if_neg (by omega), if_pos (by omega)]
    simp [letter_Name.j0]
  by_cases h3 : s.data.toList = [116, 114, 117, 101]
  · refine no false (by unfold nameL; rw [h3]; rfl) rfl (fun k => ?_)
    unfold letter_Name.f
    rw [if_neg (by omega), if_neg (by omega), if_pos (by rw [ByteArray.toList_eq]; exact h3)]
    simp [letter_Name.j0]
  by_cases h4 : s.data.toList = [102, 97, 108, 115, 101]
  · refine no false (by unfold nameL; rw [h4]; rfl) rfl (fun k => ?_)
    unfold letter_Name.f
    rw [if_neg (by omega), if_neg (by omega), if_neg (by rw [ByteArray.toList_eq]; exact h3), if_pos (by rw [ByteArray.toList_eq]; exact h4)]
    simp [letter_Name.j0]
  by_cases h5 : s.data.toList = [108, 97, 115, 116]
  · refine no false (by unfold nameL; rw [h5]; rfl) rfl (fun k => ?_)
    unfold letter_Name.f
    rw [if_neg (by omega), if_neg (by omega), if_neg (by rw [ByteArray.toList_eq]; exact h3), if_neg (by rw [ByteArray.toList_eq]; exact h4), ByteArray.toList_eq, h5]
    simp [letter_Name.j0]
  have hv : nameL s.data.toList = tailName s.data.toList 0 := by
    unfold nameL tailName
    rw [decide_eq_true (by omega), decide_eq_true (show s.data.toList.length ≤ 20 by omega), beq_eq_false_iff_ne.2 h3, beq_eq_false_iff_ne.2 h4, beq_eq_false_iff_ne.2 h5, if_pos rfl]
    rfl
  rw [hv]
  refine Ev.congr (f := fun k => letter_Name.j0 k s false) (fun k => ?_) ?_
  · unfold letter_Name.f
    rw [if_neg (by omega), if_neg (by omega), if_neg (by rw [ByteArray.toList_eq]; exact h3), if_neg (by rw [ByteArray.toList_eq]; exact h4), ByteArray.toList_eq, beq_eq_false_iff_ne.2 h5]
  · exact Ev.step (f := fun k => letter_Name.l0 k s s.size 0) (fun k => by simp [letter_Name.j0]) (name_loop s (by omega) s.size 0 (by omega))
theorem sort_ev (s : ByteArray) : Ev (fun k => lexis_Sort.f k s) (sortL s.data.toList) := by
  refine Ev.congr (f := fun k => (lexis_in.f k signsB s).bind fun t108 => (if t108 = true then (some (0, true)) else ((lexis_in.f k keysB s).bind fun t109 => (if t109 = true then (some (1, true)) else ((letter_Name.f k s).bind fun t110 => (if t110 = true then (some (2, true)) else (some (0, false)))))))) (fun k => rfl) ?_
  refine Ev.bind (f := fun k t108 => (if t108 = true then (some ((0 : Int), true)) else ((lexis_in.f k keysB s).bind fun t109 => (if t109 = true then (some (1, true)) else ((letter_Name.f k s).bind fun t110 => (if t110 = true then (some (2, true)) else (some (0, false)))))))) (in_ev signsB s signs (by decide) fields_signs) ?_
  unfold sortL
  by_cases h1 : signs.contains s.data.toList = true
  · rw [if_pos h1]
    exact Ev.congr (f := fun _ => some (0, true)) (fun k => by rw [if_pos h1]) (Ev.now _)
  · rw [if_neg h1]
    refine Ev.congr (f := fun k => (lexis_in.f k keysB s).bind fun t109 => (if t109 = true then (some ((1 : Int), true)) else ((letter_Name.f k s).bind fun t110 => (if t110 = true then (some (2, true)) else (some (0, false)))))) (fun k => by rw [if_neg h1]) ?_
    refine Ev.bind (f := fun k t109 => (if t109 = true then (some ((1 : Int), true)) else ((letter_Name.f k s).bind fun t110 => (if t110 = true then (some (2, true)) else (some (0, false)))))) (in_ev keysB s keys (by decide) fields_keys) ?_
    by_cases h2 : keys.contains s.data.toList = true
    · rw [if_pos h2]
      exact Ev.congr (f := fun _ => some (1, true)) (fun k => by rw [if_pos h2]) (Ev.now _)
    · rw [if_neg h2]
      refine Ev.congr (f := fun k => (letter_Name.f k s).bind fun t110 => (if t110 = true then (some ((2 : Int), true)) else (some (0, false)))) (fun k => by rw [if_neg h2]) ?_
      refine Ev.bind (f := fun k t110 => (if t110 = true then (some ((2 : Int), true)) else (some (0, false)))) (name_ev s) ?_
      by_cases h3 : nameL s.data.toList = true
      · rw [if_pos h3, if_pos h3]
        exact Ev.now _
      · rw [if_neg h3, if_neg h3]
        exact Ev.now _
end Go.Proofs.YtaogoabnidbbpaaDoor.PText
