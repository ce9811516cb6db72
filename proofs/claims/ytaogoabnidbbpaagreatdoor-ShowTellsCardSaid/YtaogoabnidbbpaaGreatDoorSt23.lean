/- Texts of this work merged into one file, what the law does not need left out: Ref04; Ref04First; Ref04Words. Conditions stand in each law. -/
import Derived.Test.YtaogoabnidbbpaaGreatDoorSt12
import Derived.Test.YtaogoabnidbbpaaGreatDoorSt21
import Derived.Test.YtaogoabnidbbpaaGreatDoorSt22
namespace Go.Proofs.YtaogoabnidbbpaaGreatDoor.PText
open Go.RowKit Go.Proofs.YtaogoabnidbbpaaGreatDoorW.PrintWords Go.Proofs.YtaogoabnidbbpaaGreatDoorW.PrintLast Go.Proofs.YtaogoabnidbbpaaGreatDoorW.PrintMore
set_option linter.unusedVariables false
set_option linter.unusedSimpArgs false
def signs2 : List Bs := [[60, 45, 62], [45, 62], [40], [41], [91], [93], [123], [125], [60], [62], [33], [63], [38], [124], [43], [59], [42]]
theorem signs2_is : rejoinderref04_signs.f = some (signs2.map bytesB) := rfl
theorem signs2_same (s : Bs) : signs2.contains s = signs.contains s := by
 have a : ∀ x ∈ signs2, x ∈ signs := by decide
 have b : ∀ x ∈ signs, x ∈ signs2 := by decide
 rw [Bool.eq_iff_iff, List.contains_iff_mem, List.contains_iff_mem]
 exact ⟨a s, b s⟩
theorem plain_is (c : UInt8) : rejoinderref04_plain.f (c.toNat : Int) = some (wordB c) := by
 have key : ∀ n : Nat, rejoinderref04_plain.f (n : Int) = some ((decide (97 ≤ n) && decide (n ≤ 122)) || (decide (65 ≤ n) && decide (n ≤ 90)) || (decide (48 ≤ n) && decide (n ≤ 57))) := by
  intro n
  unfold rejoinderref04_plain.f
  have e57 : decide ((n : Int) ≤ 57) = decide (n ≤ 57) := decide_eq_decide.2 (by omega)
  by_cases h1 : 97 ≤ n
  ·rw [if_pos (by omega)]
   by_cases h2 : n ≤ 122
   ·rw [if_pos (by omega), decide_eq_true h1, decide_eq_true h2]; rfl
   ·rw [if_neg (by omega), if_pos (by omega), if_neg (by omega), if_pos (by omega), e57, decide_eq_false h2, decide_eq_false (show ¬ n ≤ 90 by omega), decide_eq_false (show ¬ n ≤ 57 by omega)]
    simp
  ·rw [if_neg (by omega), decide_eq_false h1]
   by_cases h3 : 65 ≤ n
   ·rw [if_pos (by omega), decide_eq_true h3]
    by_cases h4 : n ≤ 90
    ·rw [if_pos (by omega), decide_eq_true h4]; simp
    ·rw [if_neg (by omega), if_pos (by omega), e57, decide_eq_false h4, decide_eq_true (show 48 ≤ n by omega)]; simp
   ·rw [if_neg (by omega), decide_eq_false h3]
    by_cases h5 : 48 ≤ n
    ·rw [if_pos (by omega), e57, decide_eq_true h5]; simp
    ·rw [if_neg (by omega), decide_eq_false h5]; simp
 exact key c.toNat
theorem in2_loop (s : ByteArray) (xs : List Bs) (hx : xs.length ≤ 1000000) (d : Nat) : ∀ i : Nat, i + d = xs.length →
  Ev (fun k => rejoinderref04_in.l0 k (xs.map bytesB) s i) ((xs.drop i).contains s.data.toList) := by
 induction d with
 | zero =>
  intro i hi
  rw [List.drop_of_length_le (by omega)]
  refine Ev.step (f := fun _ => some false) (fun k => ?_) (Ev.now _)
  simp only [rejoinderref04_in.l0, List.length_map]
  rw [if_neg (by omega)]
 | succ d ih =>
  intro i hi
  have hil : i < xs.length := by omega
  have hw : wrap64 ((i : Int) + 1) = ((i + 1 : Nat) : Int) := by unfold wrap64; omega
  have hr : rdOf ByteArray.empty (xs.map bytesB) (i : Int) = bytesB xs[i] := by unfold rdOf; rw [Int.toNat_natCast]; simp [List.getD_eq_getElem?_getD, hil]
  rw [List.drop_eq_getElem_cons hil, List.contains_cons]
  by_cases he : xs[i] = s.data.toList
  ·refine Ev.step (f := fun _ => some true) (fun k => ?_) (by rw [he]; simpa using Ev.now true)
   simp only [rejoinderref04_in.l0, List.length_map]
   rw [if_pos (by omega), if_pos (by omega), hr, bytes_eq, ByteArray.toList_eq, if_pos he]
  ·have hne : (s.data.toList == xs[i]) = false := by
    rw [beq_eq_false_iff_ne]
    exact fun e => he e.symm
   rw [hne, Bool.false_or]
   refine Ev.step (fun k => ?_) (ih (i + 1) (by omega))
   simp only [rejoinderref04_in.l0, List.length_map]
   rw [if_pos (by omega), if_pos (by omega), hr, bytes_eq, ByteArray.toList_eq, if_neg he, hw]
theorem in2_ev (s : ByteArray) (xs : List Bs) (hx : xs.length ≤ 1000000) : Ev (fun k => rejoinderref04_in.f k (xs.map bytesB) s) (xs.contains s.data.toList) := by
 have h := in2_loop s xs hx xs.length 0 (by omega)
 rw [List.drop_zero] at h
 exact h
theorem sort2_ev (s : ByteArray) : Ev (fun k => rejoinderref04_Sort.f k s) (sortL s.data.toList) := by
 refine Ev.congr (f := fun k => (rejoinderref04_in.f k (signs2.map bytesB) s).bind fun t108 => (if t108 = true then (some (0, true)) else ((rejoinderref04_in.f k (keys.map bytesB) s).bind fun t109 => (if t109 = true then (some (1, true)) else ((rejoinderref01_Name.f k s).bind fun t110 => (if t110 = true then (some (2, true)) else (some (0, false)))))))) (fun k => rfl) ?_
 refine Ev.bind (f := fun k t108 => (if t108 = true then (some ((0 : Int), true)) else ((rejoinderref04_in.f k (keys.map bytesB) s).bind fun t109 => (if t109 = true then (some (1, true)) else ((rejoinderref01_Name.f k s).bind fun t110 => (if t110 = true then (some (2, true)) else (some (0, false)))))))) (in2_ev s signs2 (by decide)) ?_
 rw [signs2_same]
 unfold sortL
 by_cases h1 : signs.contains s.data.toList = true
 ·rw [if_pos h1]
  exact Ev.congr (f := fun _ => some (0, true)) (fun k => by rw [if_pos h1]) (Ev.now _)
 ·rw [if_neg h1]
  refine Ev.congr (f := fun k => (rejoinderref04_in.f k (keys.map bytesB) s).bind fun t109 => (if t109 = true then (some ((1 : Int), true)) else ((rejoinderref01_Name.f k s).bind fun t110 => (if t110 = true then (some (2, true)) else (some (0, false)))))) (fun k => by rw [if_neg h1]) ?_
  refine Ev.bind (f := fun k t109 => (if t109 = true then (some ((1 : Int), true)) else ((rejoinderref01_Name.f k s).bind fun t110 => (if t110 = true then (some (2, true)) else (some (0, false)))))) (in2_ev s keys (by decide)) ?_
  by_cases h2 : keys.contains s.data.toList = true
  ·rw [if_pos h2]
   exact Ev.congr (f := fun _ => some (1, true)) (fun k => by rw [if_pos h2]) (Ev.now _)
  ·rw [if_neg h2]
   refine Ev.congr (f := fun k => (rejoinderref01_Name.f k s).bind fun t110 => (if t110 = true then (some ((2 : Int), true)) else (some (0, false)))) (fun k => by rw [if_neg h2]) ?_
   refine Ev.bind (f := fun k t110 => (if t110 = true then (some ((2 : Int), true)) else (some (0, false)))) (name2_ev s) ?_
   by_cases h3 : nameL s.data.toList = true
   ·rw [if_pos h3, if_pos h3]
    exact Ev.now _
   ·rw [if_neg h3, if_neg h3]
    exact Ev.now _
def find2 (l : Bs) : Bs := (signs2.find? fun x => x.isPrefixOf l).getD []
theorem pre_cons (a c : UInt8) (x t : Bs) : (a :: x).isPrefixOf (c :: t) = (a == c && x.isPrefixOf t) := rfl
theorem pre_zero (t : Bs) : ([] : Bs).isPrefixOf t = true := by cases t <;> rfl
set_option maxHeartbeats 4000000 in
theorem find2_sign (l : Bs) : find2 l = signL l := by
 unfold find2 signL signs2 signs
 simp only [List.foldl_cons, List.foldl_nil, List.find?_cons, List.find?_nil]
 cases l with
 | nil => rfl
 | cons c t =>
  simp only [pre_cons, pre_zero, Bool.and_true]
  by_cases h1 : c = 60
  ·subst h1
   rcases t with _ | ⟨d, t⟩
   ·rfl
   by_cases h2 : d = 45
   ·subst h2
    rcases t with _ | ⟨x, t⟩
    ·rfl
    by_cases h3 : x = 62
    ·subst h3; simp [longer, pre_cons, pre_zero]
    ·have h3' : ((62 : UInt8) == x) = false := beq_eq_false_iff_ne.2 (fun e => h3 e.symm)
     simp [longer, pre_cons, pre_zero, h3']
   ·have h2' : ((45 : UInt8) == d) = false := beq_eq_false_iff_ne.2 (fun e => h2 e.symm)
    simp [longer, pre_cons, pre_zero, h2']
  ·have h1' : ((60 : UInt8) == c) = false := beq_eq_false_iff_ne.2 (fun e => h1 e.symm)
   by_cases h4 : c = 45
   ·subst h4
    rcases t with _ | ⟨d, t⟩
    ·rfl
    by_cases h2 : d = 62
    ·subst h2; simp [longer, pre_cons, pre_zero]
    ·have h2' : ((62 : UInt8) == d) = false := beq_eq_false_iff_ne.2 (fun e => h2 e.symm)
     simp [longer, pre_cons, pre_zero, h2']
   ·have h4' : ((45 : UInt8) == c) = false := beq_eq_false_iff_ne.2 (fun e => h4 e.symm)
    simp only [h1', h4', Bool.false_and, longer, pre_cons, pre_zero, Bool.and_true]
    by_cases g40 : c = 40
    ·subst g40; rfl
    have e40 : ((40 : UInt8) == c) = false := beq_eq_false_iff_ne.2 (fun e => g40 e.symm)
    by_cases g41 : c = 41
    ·subst g41; rfl
    have e41 : ((41 : UInt8) == c) = false := beq_eq_false_iff_ne.2 (fun e => g41 e.symm)
    by_cases g91 : c = 91
    ·subst g91; rfl
    have e91 : ((91 : UInt8) == c) = false := beq_eq_false_iff_ne.2 (fun e => g91 e.symm)
    by_cases g93 : c = 93
    ·subst g93; rfl
    have e93 : ((93 : UInt8) == c) = false := beq_eq_false_iff_ne.2 (fun e => g93 e.symm)
    by_cases g123 : c = 123
    ·subst g123; rfl
    have e123 : ((123 : UInt8) == c) = false := beq_eq_false_iff_ne.2 (fun e => g123 e.symm)
    by_cases g125 : c = 125
    ·subst g125; rfl
    have e125 : ((125 : UInt8) == c) = false := beq_eq_false_iff_ne.2 (fun e => g125 e.symm)
    by_cases g62 : c = 62
    ·subst g62; rfl
    have e62 : ((62 : UInt8) == c) = false := beq_eq_false_iff_ne.2 (fun e => g62 e.symm)
    by_cases g33 : c = 33
    ·subst g33; rfl
    have e33 : ((33 : UInt8) == c) = false := beq_eq_false_iff_ne.2 (fun e => g33 e.symm)
    by_cases g63 : c = 63
    ·subst g63; rfl
    have e63 : ((63 : UInt8) == c) = false := beq_eq_false_iff_ne.2 (fun e => g63 e.symm)
    by_cases g38 : c = 38
    ·subst g38; rfl
    have e38 : ((38 : UInt8) == c) = false := beq_eq_false_iff_ne.2 (fun e => g38 e.symm)
    by_cases g124 : c = 124
    ·subst g124; rfl
    have e124 : ((124 : UInt8) == c) = false := beq_eq_false_iff_ne.2 (fun e => g124 e.symm)
    by_cases g43 : c = 43
    ·subst g43; rfl
    have e43 : ((43 : UInt8) == c) = false := beq_eq_false_iff_ne.2 (fun e => g43 e.symm)
    by_cases g59 : c = 59
    ·subst g59; rfl
    have e59 : ((59 : UInt8) == c) = false := beq_eq_false_iff_ne.2 (fun e => g59 e.symm)
    by_cases g42 : c = 42
    ·subst g42; rfl
    have e42 : ((42 : UInt8) == c) = false := beq_eq_false_iff_ne.2 (fun e => g42 e.symm)
    simp [e40, e41, e91, e93, e123, e125, e62, e33, e63, e38, e124, e43, e59, e42]
theorem pre_take (x l : Bs) : (x.isPrefixOf l = true) ↔ x.length ≤ l.length ∧ l.take x.length = x := by
 rw [List.isPrefixOf_iff_prefix, List.prefix_iff_eq_take]
 constructor
 ·intro h
  refine ⟨?_, h.symm⟩
  have := congrArg List.length h
  rw [List.length_take] at this
  omega
 ·exact fun h => h.2.symm
/-- The signs from the place i on, where no word stands. -/
theorem first_signs (s : ByteArray) (d : Nat) : ∀ i : Nat, i + d = signs2.length → Ev (fun k => rejoinderref04_first.l1 k s 0 (signs2.map bytesB) i) (bytesB (((signs2.drop i).find? fun x => x.isPrefixOf s.data.toList).getD [])) := by
 have hsz := size_eq s
 have hlen : (signs2.map bytesB).length = signs2.length := List.length_map ..
 induction d with
 | zero =>
  intro i hi
  rw [List.drop_of_length_le (by omega)]
  refine Ev.step (f := fun k => rejoinderref04_first.j4 k s 0 (signs2.map bytesB) i false) (fun k => ?_) (Ev.step (f := fun _ => some ⟨#[]⟩) (fun k => ?_) (Ev.now _))
  ·simp only [rejoinderref04_first.l1]
   rw [if_neg (by omega)]
  ·simp [rejoinderref04_first.j4]
 | succ d ih =>
  intro i hi
  have hil : i < signs2.length := by omega
  have hw : wrap64 ((i : Int) + 1) = ((i + 1 : Nat) : Int) := by have : signs2.length = 17 := rfl; unfold wrap64; omega
  have hr : rdOf ByteArray.empty (signs2.map bytesB) (i : Int) = bytesB signs2[i] := by unfold rdOf; rw [Int.toNat_natCast]; simp [List.getD_eq_getElem?_getD, hil]
  have hsx : (bytesB signs2[i]).size = signs2[i].length := by rw [← size_eq]; rfl
  rw [List.drop_eq_getElem_cons hil, List.find?_cons]
  have st : ∀ {f : Nat → Option ByteArray} {r : ByteArray}, (∀ k, rejoinderref04_first.j4 (k + 1) s 0 (signs2.map bytesB) i true = f k) → Ev f r → Ev (fun k => rejoinderref04_first.l1 k s 0 (signs2.map bytesB) i) r := fun {f r} h1 h2 => by
   refine Ev.step (f := fun k => rejoinderref04_first.j4 k s 0 (signs2.map bytesB) i true) (fun k => ?_) (Ev.step h1 h2)
   simp only [rejoinderref04_first.l1]
   rw [if_pos (by omega)]
   rfl
  by_cases hp : signs2[i].isPrefixOf s.data.toList = true
  ·obtain ⟨h1, h2⟩ := (pre_take _ _).1 hp
   rw [hp]
   refine st (f := fun _ => some (bytesB signs2[i])) (fun k => ?_) (Ev.now _)
   simp only [rejoinderref04_first.j4]
   rw [if_pos trivial, if_pos (by omega), if_pos (by omega), hr, hsx, if_pos (by omega), if_pos (by omega), if_pos (by omega), Int.toNat_natCast, extract_take s _ (by omega), bytes_eq, bytes_eq, if_pos h2]
  ·have hp' : signs2[i].isPrefixOf s.data.toList = false := Bool.eq_false_iff.2 hp
   rw [hp']
   refine st (fun k => ?_) (ih (i + 1) (by omega))
   simp only [rejoinderref04_first.j4]
   rw [if_pos trivial, if_pos (by omega), if_pos (by omega), hr, hsx]
   by_cases h1 : signs2[i].length ≤ s.size
   ·rw [if_pos (by omega), if_pos (by omega), if_pos (by omega), Int.toNat_natCast, extract_take s _ h1, bytes_eq, bytes_eq, if_neg (fun h => hp ((pre_take _ _).2 ⟨by omega, h⟩)), hw]
   ·rw [if_neg (by omega), hw]
theorem first_none (s : ByteArray) (n : Nat) (h0 : n ≠ 0) (hn : n ≤ s.size) : Ev (fun k => rejoinderref04_first.j2 k s n false) ⟨#[]⟩ := by
 refine Ev.step (f := fun k => rejoinderref04_first.l1 k s n (signs2.map bytesB) 0) (fun k => ?_) ?_
 ·simp only [rejoinderref04_first.j2]
  rw [if_neg (by decide), signs2_is, Option.bind_some]
 refine Ev.step (f := fun k => rejoinderref04_first.j4 k s n (signs2.map bytesB) 0 false) (fun k => ?_) (Ev.step (f := fun _ => some ⟨#[]⟩) (fun k => ?_) (Ev.now _))
 ·simp only [rejoinderref04_first.l1]
  rw [if_pos (by decide)]
  have : ((n : Int) == 0) = false := beq_eq_false_iff_ne.2 (by omega)
  rw [this]
 ·simp [rejoinderref04_first.j4]
theorem first_tail (s : ByteArray) (n : Nat) (hn : n ≤ s.size) (hh : headL s.data.toList = s.data.toList.take n) : Ev (fun k => rejoinderref04_first.j1 k s n) (bytesB (firstL s.data.toList)) := by
 have hsz := size_eq s
 refine Ev.step (f := fun k => (rejoinderref04_Sort.f k (s.extract 0 n)).bind fun b => if (n : Int) > 0 then rejoinderref04_first.j2 k s n b.2 else rejoinderref04_first.j2 k s n false) (fun k => ?_) ?_
 ·simp only [rejoinderref04_first.j1]
  rw [if_pos (by omega), if_pos (by omega), Int.toNat_natCast]
 refine Ev.bind (f := fun k b => if (n : Int) > 0 then rejoinderref04_first.j2 k s n b.2 else rejoinderref04_first.j2 k s n false) (sort2_ev (s.extract 0 n)) ?_
 by_cases h0 : n = 0
 ·subst h0
  have hf : firstL s.data.toList = signL s.data.toList := by unfold firstL; rw [if_pos (by rw [hh]; rfl)]
  have h1 := first_signs s signs2.length 0 (by omega)
  rw [List.drop_zero] at h1
  rw [hf, ← find2_sign]
  refine Ev.congr (f := fun k => rejoinderref04_first.j2 k s 0 false) (fun k => by rw [if_neg (by omega)]; rfl) ?_
  refine Ev.step (fun k => ?_) h1
  simp only [rejoinderref04_first.j2]
  rw [if_neg (by decide), signs2_is, Option.bind_some]
  rfl
 ·have hne : headL s.data.toList ≠ [] := by
   rw [hh]
   intro h
   have := congrArg List.length h
   rw [List.length_take, List.length_nil, hsz] at this
   omega
  rw [extract_take s n hn]
  have hd : (bytesB (s.data.toList.take n)).data.toList = s.data.toList.take n := rfl
  rw [hd]
  by_cases hq : (sortL (s.data.toList.take n)).2 = true
  ·have hf : firstL s.data.toList = s.data.toList.take n := by unfold firstL; rw [if_neg hne, hh, if_pos hq]
   rw [hf]
   refine Ev.congr (f := fun k => rejoinderref04_first.j2 k s n true) (fun k => by rw [if_pos (by omega), hq]) ?_
   refine Ev.step (f := fun _ => some (bytesB (s.data.toList.take n))) (fun k => ?_) (Ev.now _)
   simp only [rejoinderref04_first.j2]
   rw [if_pos trivial, if_pos (by omega), if_pos (by omega), Int.toNat_natCast, extract_take s n hn]
  ·have hq' : (sortL (s.data.toList.take n)).2 = false := Bool.eq_false_iff.2 hq
   have hf : firstL s.data.toList = [] := by unfold firstL; rw [if_neg hne, hh, if_neg hq]
   rw [hf]
   exact Ev.congr (f := fun k => rejoinderref04_first.j2 k s n false) (fun k => by rw [if_pos (by omega), hq']) (first_none s n h0 hn)
theorem first_scan (s : ByteArray) (hs : s.size ≤ 4096) (d : Nat) : ∀ n : Nat, n + d = s.size → (s.data.toList.take n).all wordB = true → Ev (fun k => rejoinderref04_first.l0 k s n) (bytesB (firstL s.data.toList)) := by
 have hsz := size_eq s
 induction d with
 | zero =>
  intro n hn ha
  refine Ev.step (f := fun k => rejoinderref04_first.j1 k s n) (fun k => ?_) (first_tail s n (by omega) (take_all _ _ ha (fun c hc => ?_)))
  ·simp only [rejoinderref04_first.l0]
   rw [if_neg (by omega)]
  ·rw [List.getElem?_eq_none (by omega)] at hc; cases hc
 | succ d ih =>
  intro n hn ha
  have hil : n < s.data.toList.length := by omega
  have hb := bt_of s n (by omega)
  have hw : wrap64 ((n : Int) + 1) = ((n + 1 : Nat) : Int) := by unfold wrap64; omega
  by_cases hc : wordB s.data.toList[n] = true
  ·refine Ev.step (fun k => ?_) (ih (n + 1) (by omega) ?_)
   ·simp only [rejoinderref04_first.l0]
    rw [if_pos (by omega), if_pos (by omega), hb, plain_is, Option.bind_some, if_pos hc, hw]
   ·rw [List.take_add_one, List.getElem?_eq_getElem hil, List.all_append, ha, Bool.true_and]
    show (wordB _ && true) = true
    rw [hc]
    rfl
  ·refine Ev.step (f := fun k => rejoinderref04_first.j1 k s n) (fun k => ?_) (first_tail s n (by omega) (take_all _ _ ha (fun c hc2 => ?_)))
   ·simp only [rejoinderref04_first.l0]
    rw [if_pos (by omega), if_pos (by omega), hb, plain_is, Option.bind_some, if_neg hc]
   ·rw [List.getElem?_eq_getElem hil] at hc2
    cases hc2
    exact Bool.eq_false_iff.2 hc
theorem first2_ev (s : ByteArray) (hs : s.size ≤ 4096) : Ev (fun k => rejoinderref04_first.f k s) (bytesB (firstL s.data.toList)) := first_scan s hs s.size 0 (by omega) rfl
end Go.Proofs.YtaogoabnidbbpaaGreatDoor.PText
namespace Go.Proofs.YtaogoabnidbbpaaGreatDoor.PText
open Go.RowKit Go.Proofs.YtaogoabnidbbpaaGreatDoorW.PrintWords Go.Proofs.YtaogoabnidbbpaaGreatDoorW.PrintLast Go.Proofs.YtaogoabnidbbpaaGreatDoorW.PrintMore
set_option linter.unusedVariables false
set_option linter.unusedSimpArgs false
attribute [local irreducible] firstL sortL
theorem words2_loop (s : ByteArray) (hs : s.size ≤ 4096) (n : Nat) : ∀ (i : Nat) (acc : List Wd), i ≤ s.size → s.size - i ≤ n → acc.length ≤ i → Ev (fun k => rejoinderref04_Words.l0 k s acc i) (resF acc (lexF n (s.data.toList.drop i) i)) := by
 have hsz := size_eq s
 induction n with
 | zero =>
  intro i acc hi hn ha
  refine Ev.step (f := fun _ => some (acc, 0, 0)) (fun k => ?_) (by rw [show lexF 0 (s.data.toList.drop i) i = .ok [] by rw [lexF]]; rw [show resF acc (.ok []) = (acc ++ [], 0, 0) from rfl, List.append_nil]; exact Ev.now _)
  simp only [rejoinderref04_Words.l0]
  rw [if_neg (by omega)]
 | succ n ih =>
  intro i acc hi hn ha
  by_cases hil : i < s.size
  ·have hl : i < s.data.toList.length := by omega
   have hd := List.drop_eq_getElem_cons hl
   obtain ⟨c, hc⟩ : ∃ c, c = s.data.toList[i] := ⟨_, rfl⟩
   have hb := bt_of s i hil
   rw [← hc] at hb hd
   by_cases h32 : c = 32
   ·have hw : wrap64 ((i : Int) + 1) = ((i + 1 : Nat) : Int) := by unfold wrap64; omega
    have hv : lexF (n + 1) (s.data.toList.drop i) i = lexF n (s.data.toList.drop (i + 1)) (i + 1) := by rw [hd, lexF_cons, if_pos h32]
    rw [hv]
    refine Ev.step (fun k => ?_) (ih (i + 1) acc (by omega) (by omega) (by omega))
    simp only [rejoinderref04_Words.l0]
    rw [if_pos (by omega), if_pos (by omega), if_pos (by rw [hb, h32]; rfl), hw]
   ·have hb32 : ¬ bt s i = 32 := by
     rw [hb]
     intro e
     apply h32
     apply UInt8.toNat_inj.1
     have : (32 : UInt8).toNat = 32 := rfl
     omega
    obtain ⟨w, hw⟩ : ∃ w, w = firstL (s.data.toList.drop i) := ⟨_, rfl⟩
    have hE : Ev (fun k => rejoinderref04_first.f k (s.extract i s.size)) (bytesB w) := by
     have h := first2_ev (s.extract i s.size) (by rw [ByteArray.size_extract]; omega)
     rw [drop_extract s i hi, ← hw] at h
     exact h
    have htl : (bytesB w).toList = w := bytes_eq w
    obtain ⟨G, hG⟩ : ∃ G : Nat → ByteArray → Option (List Wd × Int × Int), G = fun k t => if t.toList = [] then some ([], 140, (i : Int)) else (rejoinderref04_Sort.f k t).bind fun p => if acc.length < 4398046511104 then rejoinderref04_Words.l0 k s (acc ++ [⟨p.1, t, (i : Int)⟩]) (wrap64 ((i : Int) + (t.size : Int))) else none := ⟨_, rfl⟩
    have hstep : ∀ k, rejoinderref04_Words.l0 (k + 1) s acc i = (rejoinderref04_first.f k (s.extract i s.size)).bind (G k) := by
     intro k
     rw [hG]
     have c1 : (i : Int) < (s.size : Int) := by omega
     have c2 : (0 : Int) ≤ (i : Int) := by omega
     have c3 : (i : Int) ≤ (s.size : Int) := by omega
     simp only [rejoinderref04_Words.l0, if_pos c1, if_pos c2, if_neg hb32, if_pos c3, Int.toNat_natCast]
    by_cases hw0 : w = []
    ·have hv : lexF (n + 1) (s.data.toList.drop i) i = .error i := by
      rw [hd] at hw ⊢
      rw [lexF_cons, if_neg h32, if_pos (by rw [← hw]; exact hw0)]
     rw [hv]
     refine Ev.step hstep (Ev.bind hE (Ev.congr (f := fun _ => some (([] : List Wd), 140, (i : Int))) (fun k => ?_) (Ev.now _)))
     rw [hG]
     exact if_pos (by rw [htl]; exact hw0)
    ·have hp := first_pre (s.data.toList.drop i)
     rw [← hw] at hp
     have hpl := hp.length_le
     rw [List.length_drop] at hpl
     have hw1 : 1 ≤ w.length := by
      rcases w with _ | ⟨x, t⟩
      ·exact absurd rfl hw0
      ·simp
     have hwr : Aside0 (wrap64 ((i : Int) + ((bytesB w).size : Int)) = ((i + w.length : Nat) : Int)) := ⟨by rw [size_bytesB]; unfold wrap64; omega⟩
     have hv : resF acc (lexF (n + 1) (s.data.toList.drop i) i) = resF (acc ++ [⟨(sortL w).1, bytesB w, (i : Int)⟩]) (lexF n (s.data.toList.drop (i + w.length)) (i + w.length)) := by
      have h5 : s.data.toList.drop (i + w.length) = (s.data.toList.drop i).drop w.length := by rw [List.drop_drop]
      rw [h5]
      rw [hd] at hw ⊢
      rw [lexF_cons, if_neg h32, if_neg (by rw [← hw]; exact hw0), ← hw]
      cases lexF n (List.drop w.length (c :: s.data.toList.drop (i + 1))) (i + w.length) with
      | ok ws => simp [resF]
      | error e => rfl
     rw [hv]
     have hsE := sort2_ev (bytesB w)
     rw [show (bytesB w).data.toList = w from rfl] at hsE
     have hgo := ih (i + w.length) (acc ++ [⟨(sortL w).1, bytesB w, (i : Int)⟩]) (by omega) (by omega) (by rw [List.length_append, List.length_cons, List.length_nil]; omega)
     refine Ev.step hstep (Ev.bind hE (Ev.congr (f := fun k => (rejoinderref04_Sort.f k (bytesB w)).bind fun p => rejoinderref04_Words.l0 k s (acc ++ [⟨p.1, bytesB w, (i : Int)⟩]) ((i + w.length : Nat) : Int)) (fun k => ?_) (Ev.bind (f := fun k p => rejoinderref04_Words.l0 k s (acc ++ [⟨p.1, bytesB w, (i : Int)⟩]) ((i + w.length : Nat) : Int)) hsE hgo)))
     have c4 : ¬ (bytesB w).toList = [] := by rw [htl]; exact hw0
     have hac : acc.length < 4398046511104 := by omega
     simp only [hG, if_neg c4, if_pos hac, hwr.out]
  ·have hv : lexF (n + 1) (s.data.toList.drop i) i = .ok [] := by rw [List.drop_of_length_le (by omega), lexF_nil]
   rw [hv]
   refine Ev.step (f := fun _ => some (acc, 0, 0)) (fun k => ?_) (by rw [show resF acc (.ok []) = (acc ++ [], 0, 0) from rfl, List.append_nil]; exact Ev.now _)
   simp only [rejoinderref04_Words.l0]
   rw [if_neg (by omega)]
theorem words2_ev (s : ByteArray) : Ev (fun k => rejoinderref04_Words.f k s) (wordsL s.data.toList) := by
 have hsz := size_eq s
 unfold wordsL
 by_cases h : s.data.toList.length ≤ 4096
 ·rw [if_pos h]
  refine Ev.congr (f := fun k => rejoinderref04_Words.l0 k s [] ((0 : Nat) : Int)) (fun k => ?_) (by rw [hsz]; exact words2_loop s (by omega) s.size 0 [] (Nat.zero_le _) (by omega) (Nat.zero_le _))
  unfold rejoinderref04_Words.f
  rw [if_neg (by omega)]
  rfl
 ·rw [if_neg h]
  refine Ev.congr (f := fun _ => some (([] : List Wd), 3, -1)) (fun k => ?_) (Ev.now _)
  unfold rejoinderref04_Words.f
  rw [if_pos (by omega)]
end Go.Proofs.YtaogoabnidbbpaaGreatDoor.PText
