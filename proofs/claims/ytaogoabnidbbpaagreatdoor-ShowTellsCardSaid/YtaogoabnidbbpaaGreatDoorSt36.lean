/- Texts of this work merged into one file, what the law does not need left out: TextBacks2; TextBack; TextShows; RefTold0; RefPut6; RefPut6b; RefFull. Conditions stand in each law. -/
import Derived.Test.YtaogoabnidbbpaaGreatDoorSt28
import Derived.Test.YtaogoabnidbbpaaGreatDoorSt34
import Derived.Test.YtaogoabnidbbpaaGreatDoorSt35
namespace Go.Proofs.YtaogoabnidbbpaaGreatDoor.PText
open Go.RowKit Go.Proofs.YtaogoabnidbbpaaGreatDoorW.PrintWords Go.Proofs.YtaogoabnidbbpaaGreatDoorW.PrintLast Go.Proofs.YtaogoabnidbbpaaGreatDoorW.PrintMore
set_option linter.unusedVariables false
set_option linter.unusedSimpArgs false
theorem chk_from (l : List ByteArray) : ∀ seen, chkFrom seen l = 0 → ∀ j (hj : j < l.length), nameL l[j].data.toList = true ∧ l[j].data.toList ∉ seen ∧ ∀ i (hi : i < j), l[i].data.toList ≠ l[j].data.toList := by
 induction l with
 | nil => intro seen _ j hj; cases hj
 | cons s t ih =>
  intro seen h j hj
  rw [chk_cons] at h
  by_cases hn : nameL s.data.toList = false
  ·rw [if_pos hn] at h; exact absurd h (by decide)
  ·rw [if_neg hn] at h
   by_cases hs : s.data.toList ∈ seen
   ·rw [if_pos hs] at h; exact absurd h (by decide)
   ·rw [if_neg hs] at h
    cases j with
    | zero => exact ⟨by simpa using hn, hs, fun i hi => by cases hi⟩
    | succ j =>
     obtain ⟨h1, h2, h3⟩ := ih _ h j (by simpa using hj)
     simp only [List.getElem_cons_succ]
     refine ⟨h1, fun hm => h2 (List.mem_append_left _ hm), fun i hi => ?_⟩
     cases i with
     | zero => exact fun e => h2 (List.mem_append_right _ (by simp only [List.getElem_cons_zero] at e; rw [e]; exact List.mem_cons_self))
     | succ i => simp only [List.getElem_cons_succ]; exact h3 i (by omega)
theorem chk_name {names : List ByteArray} (h : chk names = 0) (i : Nat) (hi : i < names.length) : nameL names[i].data.toList = true ∧ placeOf names names[i].data.toList = some i := by
 unfold chk at h
 split at h
 ·exact absurd h (by decide)
 ·obtain ⟨h1, -, h3⟩ := chk_from names [] h i hi
  refine ⟨h1, ?_⟩
  unfold placeOf
  rw [List.findIdx?_eq_some_iff_getElem]
  exact ⟨hi, by simp, fun j hj => by simpa using h3 j hj⟩
/-- Blocks of tokens, their parts, their texts (the top first). -/
inductive Stk (names : List ByteArray) : List Tk → List Trm.Pt → List S61 → Prop
 | nil : Stk names [] [] []
 | cons {ts b : List Tk} {st : List Trm.Pt} {sk : List S61} {p : Trm.Pt} {x : S61} : Stk names ts st sk → (p.f0 = false → PartF names b x) → (p.f0 = true → PartP names b x) → Stk names (ts ++ b) (st ++ [p]) (x :: sk)
theorem Stk.inv {names : List ByteArray} {ts : List Tk} {st : List Trm.Pt} {sk : List S61} (h : Stk names ts st sk) (hl : 1 ≤ st.length) :
  ∃ ts' b st' sk' p x, ts = ts' ++ b ∧ st = st' ++ [p] ∧ sk = x :: sk' ∧ Stk names ts' st' sk' ∧ (p.f0 = false → PartF names b x) ∧ (p.f0 = true → PartP names b x) := by
 cases h with
 | nil => exact absurd hl (by decide)
 | cons h1 h2 h3 => exact ⟨_, _, _, _, _, _, rfl, rfl, rfl, h1, h2, h3⟩
theorem Stk.two {names : List ByteArray} {ts : List Tk} {st : List Trm.Pt} {sk : List S61} (h : Stk names ts st sk) (hl : 2 ≤ st.length) :
  ∃ ts' a b st' sk' p1 p2 y x, ts = ts' ++ a ++ b ∧ st = st' ++ [p1] ++ [p2] ∧ sk = x :: y :: sk' ∧ Stk names ts' st' sk' ∧ (p1.f0 = false → PartF names a y) ∧ (p1.f0 = true → PartP names a y) ∧ (p2.f0 = false → PartF names b x) ∧ (p2.f0 = true → PartP names b x) := by
 obtain ⟨ts1, b, st1, sk1, p2, x, rfl, rfl, rfl, h1, h2, h3⟩ := h.inv (by omega)
 obtain ⟨ts2, a, st2, sk2, p1, y, rfl, rfl, rfl, h4, h5, h6⟩ := h1.inv (by rw [List.length_append] at hl; simp at hl; omega)
 exact ⟨ts2, a, b, st2, sk2, p1, p2, y, x, rfl, rfl, rfl, h4, h5, h6, h2, h3⟩
theorem Stk.put {names : List ByteArray} {ts B : List Tk} {st : List Trm.Pt} {sk : List S61} {p : Trm.Pt} {x : S61} (h : Stk names ts st sk) (hF : p.f0 = false → PartF names B x) (hP : p.f0 = true → PartP names B x) : Stk names (ts ++ B) (st ++ [p]) (x :: sk) := .cons h hF hP
theorem run_small {names : List ByteArray} (l : List Tk) : ∀ (st : List S61) (lg : Bool) (q : List S61 × Bool), SmallS st → runS names st lg l = some q → SmallS q.1 := by
 induction l with
 | nil => intro st lg q h hr; rw [runS] at hr; cases hr; exact h
 | cons t l ih =>
  intro st lg q h hr
  rw [runS] at hr
  cases hs : stepS names st lg t with
  | none => rw [hs] at hr; cases hr
  | some z => rw [hs] at hr; exact ih _ _ _ (step_fits hs h).1 hr
theorem step_goes {names : List ByteArray} {st : List Trm.Pt} {sk : List S61} {lg : Bool} {i : Nat} {t : Tk} {q : List Trm.Pt × Trm.Pt} (hl : sk.length = st.length) (hq : Trm.step i st t = some q) (h4 : t.f0 ≠ 4) (h5 : t.f0 ≠ 5) :
  ∃ z, stepS names sk lg t = some z ∧ z.1.length = (q.1 ++ [q.2]).length := by
 obtain ⟨o, p⟩ := t
 obtain ⟨n, hn, hn1, -, rfl⟩ := Trm.step_some hq
 have hn' : Trm.takesN o p = some n := hn
 have h4' : o ≠ 4 := h4
 have h5' : o ≠ 5 := h5
 clear hn hq h4 h5
 have fin : ∀ (s : List S61) (a : ByteArray) (k : Int), s.length = st.length - n → ∃ z, some (putS s lg a k) = some z ∧ z.1.length = (st.take (st.length - n) ++ [Trm.mk o i (st.drop (st.length - n))]).length := by
  intro s a k hs
  refine ⟨_, rfl, ?_⟩
  rw [putS_len, List.length_append, List.length_take, hs]
  simp
 unfold stepS
 unfold Trm.takesN at hn'
 split at hn'
 ·cases hn'
 split at hn'
 ·obtain rfl := Option.some.inj hn'
  rename_i ho
  have : o = 0 ∨ o = 1 ∨ o = 2 ∨ o = 3 := by omega
  rcases this with rfl | rfl | rfl | rfl <;> exact fin sk _ _ (by omega)
 split at hn'
 ·obtain rfl := Option.some.inj hn'
  rename_i ho
  cases sk with
  | nil => rw [List.length_nil] at hl; omega
  | cons x s =>
   rw [List.length_cons] at hl
   rcases ho with rfl | rfl | rfl | rfl | rfl | rfl | rfl | rfl <;> exact fin s _ _ (by omega)
 split at hn'
 ·obtain rfl := Option.some.inj hn'
  rename_i ho
  match sk, hl with
  | [], hl => rw [List.length_nil] at hl; omega
  | [_], hl => rw [List.length_cons, List.length_nil] at hl; omega
  | x :: y :: s, hl =>
   rw [List.length_cons, List.length_cons] at hl
   rcases ho with rfl | rfl | rfl | rfl | rfl | rfl | rfl | rfl | rfl | rfl <;> exact fin s _ _ (by omega)
 ·cases hn'
theorem run_goes {names : List ByteArray} (l : List Tk) : ∀ (i : Nat) (all st : List Trm.Pt) (r : List Trm.Pt × List Trm.Pt) (sk : List S61) (lg : Bool), sk.length = st.length → Trm.run i all st l = some r → (∀ t ∈ l, t.f0 ≠ 4 ∧ t.f0 ≠ 5) → ∃ z, runS names sk lg l = some z ∧ z.1.length = r.2.length := by
 induction l with
 | nil => intro i all st r sk lg h hr _; rw [Trm.run] at hr; cases hr; exact ⟨_, rfl, h⟩
 | cons t l ih =>
  intro i all st r sk lg h hr hok
  rw [Trm.run] at hr
  cases hq : Trm.step i st t with
  | none => rw [hq] at hr; cases hr
  | some q =>
   rw [hq] at hr
   obtain ⟨z, hz, hzl⟩ := step_goes (names := names) (lg := lg) h hq (hok t List.mem_cons_self).1 (hok t List.mem_cons_self).2
   obtain ⟨y, hy, hyl⟩ := ih _ _ _ _ z.1 z.2 hzl hr (fun u hu => hok u (List.mem_cons_of_mem _ hu))
   exact ⟨y, by rw [runS, hz]; exact hy, hyl⟩
/-- Of tokens that stand something is shown. -/
theorem show_some (names : List ByteArray) {l : List Tk} {path : Bool} (hk : chkT l path = 0) (hok : ∀ t ∈ l, okT t = true) : ∃ s e, show_text.f names l = some (s, e) := by
 obtain ⟨hl5, all, p, hrun, hp, hd⟩ := check_inv hk
 unfold show_text.f
 rw [if_pos ⟨by omega, List.all_eq_true.2 hok⟩]
 by_cases cm : l.any moreT = true
 ·rw [if_pos cm]; exact ⟨_, _, rfl⟩
 ·rw [if_neg cm]
  by_cases co : l.any (outT names.length) = true
  ·rw [if_pos co]; exact ⟨_, _, rfl⟩
  ·rw [if_neg co]
   obtain ⟨z, hz, hzl⟩ := run_goes (names := names) l 0 [] [] _ [] false rfl hrun (fun t ht => by
    obtain ⟨d4, d5⟩ := moreT_no (any_no cm t ht)
    exact ⟨beq_eq_false_iff_ne.1 d4, beq_eq_false_iff_ne.1 d5⟩)
   rw [hz]
   obtain ⟨z1, z2⟩ := z
   cases z2 with
   | true => exact ⟨_, _, rfl⟩
   | false =>
    cases z1 with
    | nil => cases hzl
    | cons x s => exact ⟨_, _, rfl⟩
abbrev Rt := S72
abbrev Pc := S61
def toR (x : Pc) : Rt := ⟨x.f0, x.f1⟩
def withinR (x : Rt) (n : Int) : ByteArray := if x.f1 < n then ((⟨#[40]⟩ : ByteArray) ++ x.f0) ++ ⟨#[41]⟩ else x.f0
theorem withinR_size (x : Rt) (n : Int) : x.f0.size ≤ (withinR x n).size ∧ (withinR x n).size ≤ x.f0.size + 2 := by
 unfold withinR
 split
 ·simp only [ByteArray.size_append]
  have : (⟨#[40]⟩ : ByteArray).size = 1 := rfl
  have : (⟨#[41]⟩ : ByteArray).size = 1 := rfl
  omega
 ·omega
def strongR (o : Int) : Int := if o = 2 then 7 else (lookAt o).strong
/-- A token's text, of the parts that it takes. -/
def textR (names : List ByteArray) (t : Tk) (a : List Rt) : Option ByteArray :=
 if t.f0 = 2 then some (names.getD t.f1.toNat ⟨#[]⟩)
 else if leafO t.f0 then some (lookAt t.f0).text
 else if unO t.f0 then (match a with | [x] => some ((lookAt t.f0).text ++ withinR x (lookAt t.f0).left) | _ => none)
 else if t.f0 = 19 then (match a with | [x] => some ((⟨#[123]⟩ ++ x.f0) ++ (lookAt t.f0).text) | _ => none)
 else if t.f0 = 23 then (match a with | [x] => some (withinR x (lookAt t.f0).left ++ (lookAt t.f0).text) | _ => none)
 else if t.f0 = 17 then (match a with | [y, x] => some (((⟨#[60]⟩ ++ y.f0) ++ (lookAt t.f0).text) ++ withinR x (lookAt t.f0).right) | _ => none)
 else if t.f0 = 18 then (match a with | [y, x] => some (((⟨#[91]⟩ ++ y.f0) ++ (lookAt t.f0).text) ++ withinR x (lookAt t.f0).right) | _ => none)
 else if binO t.f0 then (match a with | [y, x] => some ((withinR y (lookAt t.f0).left ++ (lookAt t.f0).text) ++ withinR x (lookAt t.f0).right) | _ => none)
 else none
def stepR (names : List ByteArray) (st : List Rt) (t : Tk) : Option (List Rt) :=
 match Trm.takesN t.f0 t.f1 with
 | none => none
 | some n => if n ≤ st.length then (textR names t (st.drop (st.length - n))).map (fun s => st.take (st.length - n) ++ [⟨s, strongR t.f0⟩]) else none
def runR (names : List ByteArray) : List Rt → List Tk → Option (List Rt)
 | st, [] => some st
 | st, t :: ts => (match stepR names st t with | some q => runR names q ts | none => none)
def totR (st : List Rt) : Nat := (st.map fun x => x.f0.size).sum
theorem totR_app (a b : List Rt) : totR (a ++ b) = totR a + totR b := by unfold totR; rw [List.map_append, List.sum_append]
theorem totR_one (x : Rt) : totR [x] = x.f0.size := rfl
/-- The two stacks: the program's, its top first, and the reference's. -/
def RelR (sk : List Pc) (lg : Bool) (st : List Rt) : Prop := st.length = sk.length ∧ (lg = false → st = sk.reverse.map toR) ∧ (lg = true → 4096 < totR st)
theorem rel_put {s : List Pc} {lg : Bool} {st0 : List Rt} {a a2 : ByteArray} {k : Int} (hl : st0.length = s.length) (h1 : lg = false → st0 = s.reverse.map toR ∧ a2 = a) (h2 : lg = true → 4096 < totR st0 + a2.size) : RelR (putS s lg a k).1 (putS s lg a k).2 (st0 ++ [⟨a2, k⟩]) := by
 by_cases hs : a.size > 4096
 ·have e : putS s lg a k = (⟨⟨#[]⟩, k⟩ :: s, true) := by unfold putS; rw [if_pos hs, if_pos hs]
  rw [e]
  refine ⟨by simp [hl], (fun h => by cases h), fun _ => ?_⟩
  rw [totR_app, totR_one]
  cases lg with
  | false => obtain ⟨_, rfl⟩ := h1 rfl; show 4096 < totR st0 + a2.size; omega
  | true => exact h2 rfl
 ·have e : putS s lg a k = (⟨a, k⟩ :: s, lg) := by unfold putS; rw [if_neg hs, if_neg hs]
  rw [e]
  refine ⟨by simp [hl], fun h => ?_, fun h => ?_⟩
  ·obtain ⟨rfl, rfl⟩ := h1 h
   simp [toR]
  ·rw [totR_app, totR_one]
   exact h2 h
theorem rel_pop {x : Pc} {s : List Pc} {lg : Bool} {st : List Rt} (h : RelR (x :: s) lg st) : ∃ st0 y, st = st0 ++ [y] ∧ st0.length = s.length ∧ (lg = false → st0 = s.reverse.map toR ∧ y = toR x) ∧ (lg = true → 4096 < totR st0 + y.f0.size) := by
 obtain ⟨h0, h1, h2⟩ := h
 have hne : st ≠ [] := by rintro rfl; cases h0
 refine ⟨st.dropLast, st.getLast hne, (List.dropLast_concat_getLast hne).symm, by rw [List.length_dropLast, h0]; rfl, fun hl => ?_, fun hl => ?_⟩
 ·have e := h1 hl
  rw [List.reverse_cons, List.map_append] at e
  subst e
  simp
 ·have e := h2 hl
  rw [← List.dropLast_concat_getLast hne, totR_app, totR_one] at e
  exact e
theorem take_last {α : Type} (a b : List α) : (a ++ b).take ((a ++ b).length - b.length) = a ∧ (a ++ b).drop ((a ++ b).length - b.length) = b := by
 have e : (a ++ b).length - b.length = a.length := by rw [List.length_append]; omega
 rw [e]
 exact ⟨List.take_left, List.drop_left⟩
theorem stepR_at (names : List ByteArray) {st : List Rt} {b : List Rt} {t : Tk} {n : Nat} {s : ByteArray} (hn : Trm.takesN t.f0 t.f1 = some n) (hb : b.length = n) (ht : textR names t b = some s) : stepR names (st ++ b) t = some (st ++ [⟨s, strongR t.f0⟩]) := by
 subst hb
 obtain ⟨h1, h2⟩ := take_last st b
 unfold stepR
 rw [hn]
 simp only
 rw [if_pos (by rw [List.length_append]; omega), h1, h2, ht]
 rfl
set_option maxHeartbeats 4000000 in
theorem step_same {names : List ByteArray} {sk : List Pc} {lg : Bool} {st : List Rt} {t : Tk} {n : Nat} {q : List Pc × Bool} (hq : stepS names sk lg t = some q) (hn : Trm.takesN t.f0 t.f1 = some n) (h4 : t.f0 ≠ 4) (h5 : t.f0 ≠ 5) (h : RelR sk lg st) : ∃ st1, stepR names st t = some st1 ∧ RelR q.1 q.2 st1 := by
 obtain ⟨o, p⟩ := t
 have hn' : Trm.takesN o p = some n := hn
 have h4' : o ≠ 4 := h4
 have h5' : o ≠ 5 := h5
 clear h4 h5
 have leaf : ∀ (a : ByteArray) (k : Int), n = 0 → textR names ⟨o, p⟩ [] = some a → strongR o = k → some (putS sk lg a k) = some q → ∃ st1, stepR names st ⟨o, p⟩ = some st1 ∧ RelR q.1 q.2 st1 := by
  rintro a k rfl ht rfl hp
  cases hp
  refine ⟨st ++ [⟨a, strongR o⟩], by have := stepR_at names (st := st) (b := []) hn rfl ht; rwa [List.append_nil] at this, rel_put h.1 (fun hl => ⟨h.2.1 hl, rfl⟩) (fun hl => by have := h.2.2 hl; omega)⟩
 have one : ∀ (x : Pc) (s : List Pc) (f : Rt → ByteArray) (k : Int), sk = x :: s → n = 1 → (∀ y, textR names ⟨o, p⟩ [y] = some (f y)) → (∀ y, y.f0.size ≤ (f y).size) → strongR o = k → some (putS s lg (f (toR x)) k) = some q → ∃ st1, stepR names st ⟨o, p⟩ = some st1 ∧ RelR q.1 q.2 st1 := by
  rintro x s f k rfl rfl ht hf rfl hp
  cases hp
  obtain ⟨st0, y, rfl, e1, e2, e3⟩ := rel_pop h
  exact ⟨_, stepR_at names hn rfl (ht y), rel_put e1 (fun hl => ⟨(e2 hl).1, by rw [(e2 hl).2]⟩) (fun hl => by have := e3 hl; have := hf y; omega)⟩
 have two : ∀ (x y : Pc) (s : List Pc) (f : Rt → Rt → ByteArray) (k : Int), sk = x :: y :: s → n = 2 → (∀ b a, textR names ⟨o, p⟩ [b, a] = some (f b a)) → (∀ b a, b.f0.size + a.f0.size ≤ (f b a).size) → strongR o = k → some (putS s lg (f (toR y) (toR x)) k) = some q → ∃ st1, stepR names st ⟨o, p⟩ = some st1 ∧ RelR q.1 q.2 st1 := by
  rintro x y s f k rfl rfl ht hf rfl hp
  cases hp
  obtain ⟨st0, a, rfl, e1, e2, e3⟩ := rel_pop h
  have hne : st0 ≠ [] := by rintro rfl; cases e1
  have hsp := List.dropLast_concat_getLast hne
  have hl0 : st0.dropLast.length = s.length := by rw [List.length_dropLast, e1]; rfl
  have hst : stepR names (st0 ++ [a]) ⟨o, p⟩ = some (st0.dropLast ++ [⟨f (st0.getLast hne) a, strongR o⟩]) := by
   have := stepR_at names (st := st0.dropLast) (b := [st0.getLast hne, a]) hn rfl (ht _ _)
   rw [show st0.dropLast ++ [st0.getLast hne, a] = (st0.dropLast ++ [st0.getLast hne]) ++ [a] by simp, hsp] at this
   exact this
  refine ⟨_, hst, rel_put hl0 (fun hl => ?_) (fun hl => ?_)⟩
  ·obtain ⟨h1, rfl⟩ := e2 hl
   subst h1
   simp
  ·have h3 := e3 hl
   have h4 := hf (st0.getLast hne) a
   rw [← hsp, totR_app, totR_one] at h3
   omega
 have sz : ∀ (o : Int) (y : Rt) (k : Int), y.f0.size ≤ ((lookAt o).text ++ withinR y k).size := fun o y k => by rw [ByteArray.size_append]; have := (withinR_size y k).1; omega
 have sz2 : ∀ (b a : Rt) (t : ByteArray) (i j : Int), b.f0.size + a.f0.size ≤ ((withinR b i ++ t) ++ withinR a j).size := fun b a t i j => by simp only [ByteArray.size_append]; have := (withinR_size b i).1; have := (withinR_size a j).1; omega
 unfold stepS at hq
 unfold Trm.takesN at hn'
 split at hn'
 ·cases hn'
 split at hn'
 ·obtain rfl := Option.some.inj hn'
  rename_i ho
  have : o = 0 ∨ o = 1 ∨ o = 2 ∨ o = 3 := by omega
  rcases this with rfl | rfl | rfl | rfl <;> exact leaf _ _ rfl rfl rfl hq
 split at hn'
 ·obtain rfl := Option.some.inj hn'
  rename_i ho
  cases sk with
  | nil => rcases ho with rfl | rfl | rfl | rfl | rfl | rfl | rfl | rfl <;> cases hq
  | cons x s =>
   rcases ho with rfl | rfl | rfl | rfl | rfl | rfl | rfl | rfl
   all_goals first
    | exact one x s (fun y => (lookAt _).text ++ withinR y (lookAt _).left) _ rfl rfl (fun y => rfl) (fun y => sz _ y _) rfl hq
    | exact one x s (fun y => ((⟨#[123]⟩ : ByteArray) ++ y.f0) ++ (lookAt 19).text) _ rfl rfl (fun y => rfl) (fun y => by simp only [ByteArray.size_append]; omega) rfl hq
    | exact one x s (fun y => withinR y (lookAt 23).left ++ (lookAt 23).text) _ rfl rfl (fun y => rfl) (fun y => by rw [ByteArray.size_append]; have := (withinR_size y (lookAt 23).left).1; omega) rfl hq
 split at hn'
 ·obtain rfl := Option.some.inj hn'
  rename_i ho
  match sk with
  | [] => rcases ho with rfl | rfl | rfl | rfl | rfl | rfl | rfl | rfl | rfl | rfl <;> cases hq
  | [_] => rcases ho with rfl | rfl | rfl | rfl | rfl | rfl | rfl | rfl | rfl | rfl <;> cases hq
  | x :: y :: s =>
   rcases ho with rfl | rfl | rfl | rfl | rfl | rfl | rfl | rfl | rfl | rfl
   all_goals first
    | exact two x y s (fun b a => (withinR b (lookAt _).left ++ (lookAt _).text) ++ withinR a (lookAt _).right) _ rfl rfl (fun _ _ => rfl) (fun b a => sz2 b a _ _ _) rfl hq
    | exact two x y s (fun b a => (((⟨#[60]⟩ : ByteArray) ++ b.f0) ++ (lookAt 17).text) ++ withinR a (lookAt 17).right) _ rfl rfl (fun _ _ => rfl) (fun b a => by simp only [ByteArray.size_append]; have := (withinR_size a (lookAt 17).right).1; omega) rfl hq
    | exact two x y s (fun b a => (((⟨#[91]⟩ : ByteArray) ++ b.f0) ++ (lookAt 18).text) ++ withinR a (lookAt 18).right) _ rfl rfl (fun _ _ => rfl) (fun b a => by simp only [ByteArray.size_append]; have := (withinR_size a (lookAt 18).right).1; omega) rfl hq
 ·cases hn'
theorem run_same {names : List ByteArray} (l : List Tk) : ∀ (i : Nat) (all stp : List Trm.Pt) (r : List Trm.Pt × List Trm.Pt) (sk : List Pc) (lg : Bool) (st : List Rt), sk.length = stp.length → RelR sk lg st → Trm.run i all stp l = some r → (∀ t ∈ l, t.f0 ≠ 4 ∧ t.f0 ≠ 5) → ∃ z st1, runS names sk lg l = some z ∧ runR names st l = some st1 ∧ RelR z.1 z.2 st1 ∧ z.1.length = r.2.length := by
 induction l with
 | nil => intro i all stp r sk lg st hl h hr _; rw [Trm.run] at hr; cases hr; exact ⟨_, _, rfl, rfl, h, hl⟩
 | cons t l ih =>
  intro i all stp r sk lg st hl h hr hok
  rw [Trm.run] at hr
  cases hq : Trm.step i stp t with
  | none => rw [hq] at hr; cases hr
  | some q =>
   rw [hq] at hr
   obtain ⟨h4, h5⟩ := hok t List.mem_cons_self
   obtain ⟨z, hz, hzl⟩ := step_goes (names := names) (lg := lg) hl hq h4 h5
   obtain ⟨n, hn, -⟩ := Trm.step_some hq
   obtain ⟨st1, hs, hR⟩ := step_same hz hn h4 h5 h
   obtain ⟨y, st2, hy, hs2, hR2, hyl⟩ := ih _ _ _ _ z.1 z.2 st1 hzl hR hr (fun u hu => hok u (List.mem_cons_of_mem _ hu))
   exact ⟨y, st2, by rw [runS, hz]; exact hy, by rw [runR, hs]; exact hs2, hR2, hyl⟩
/-- What the reference tells of tokens: the text, the error. -/
def toldR (names : List ByteArray) (l : List Tk) : Option (ByteArray × Int) :=
 if l.any moreT = true then some (⟨#[]⟩, 160)
 else if l.any (outT names.length) = true then some (⟨#[]⟩, 2)
 else (match runR names [] l with | some (x :: _) => some (if x.f0.size > 4096 then (⟨#[]⟩, 3) else (x.f0, 0)) | _ => none)
theorem told_same {names : List ByteArray} {l : List Tk} {path : Bool} (hk : chkT l path = 0) (hok : ∀ t ∈ l, okT t = true) : ∃ s e, show_text.f names l = some (s, e) ∧ toldR names l = some (s, e) := by
 obtain ⟨hl5, all, p, hrun, hp, hd⟩ := check_inv hk
 unfold show_text.f toldR
 rw [if_pos ⟨by omega, List.all_eq_true.2 hok⟩]
 by_cases cm : l.any moreT = true
 ·simp only [if_pos cm]; exact ⟨_, _, rfl, rfl⟩
 ·simp only [if_neg cm]
  by_cases co : l.any (outT names.length) = true
  ·simp only [if_pos co]; exact ⟨_, _, rfl, rfl⟩
  ·simp only [if_neg co]
   obtain ⟨z, st1, hz, hs, hR, hzl⟩ := run_same (names := names) l 0 [] [] _ [] false [] rfl ⟨rfl, fun _ => rfl, fun h => by cases h⟩ hrun (fun t ht => by
    obtain ⟨d4, d5⟩ := moreT_no (any_no cm t ht)
    exact ⟨beq_eq_false_iff_ne.1 d4, beq_eq_false_iff_ne.1 d5⟩)
   have hsm := run_small l [] false z (fun _ h => absurd h List.not_mem_nil) hz
   rw [hz, hs]
   obtain ⟨z1, z2⟩ := z
   obtain ⟨h1, h2, h3⟩ := hR
   match z1, hzl, h1, hsm with
   | [x], _, h1, hsm =>
    match st1, h1 with
    | [y], _ =>
     cases z2 with
     | false =>
      have e := h2 rfl
      cases e
      have := hsm x List.mem_cons_self
      refine ⟨x.f0, 0, rfl, ?_⟩
      show some (if x.f0.size > 4096 then _ else _) = _
      rw [if_neg (by omega)]
      rfl
     | true =>
      have e : 4096 < y.f0.size := h3 rfl
      refine ⟨⟨#[]⟩, 3, rfl, ?_⟩
      show some (if y.f0.size > 4096 then _ else _) = _
      rw [if_pos e]
end Go.Proofs.YtaogoabnidbbpaaGreatDoor.PText
namespace Go.Proofs.YtaogoabnidbbpaaGreatDoor.PText
open Go.RowKit Go.Proofs.YtaogoabnidbbpaaGreatDoorW.PrintWords Go.Proofs.YtaogoabnidbbpaaGreatDoorW.PrintLast Go.Proofs.YtaogoabnidbbpaaGreatDoorW.PrintMore Go.Proofs.YtaogoabnidbbpaaGreatDoorW.Aid
set_option linter.unusedVariables false
set_option linter.unusedSimpArgs false
set_option maxHeartbeats 8000000 in
theorem within6 (s : ByteArray) (k n : Int) (w : World) (hs : s.size ≤ 1000000) :
  Calls Tryz.prog 43 #[.agg #[.string s, .int .i64 k], .int .i64 n] w fun e w' => e = .returned (.string (withinR ⟨s, k⟩ n)) ∧ Below w.heap.size w w' := by
 have z0 : (9223372036854775807 < 1 + s.size) = False := eq_false (by omega)
 have z1 : (9223372036854775807 < 1 + s.size + 1) = False := eq_false (by omega)
 unfold withinR
 obtain ⟨b, hb⟩ : ∃ b, decide (k < n) = b := ⟨_, rfl⟩
 rw [show (if (⟨s, k⟩ : Rt).f1 < n then ((⟨#[40]⟩ : ByteArray) ++ s) ++ ⟨#[41]⟩ else s) = (if b = true then ((⟨#[40]⟩ : ByteArray) ++ s) ++ ⟨#[41]⟩ else s) by rw [← hb]; simp]
 cases b
 all_goals
  go_enter Tryz.func43, Tryz.ntmps43
  go_wp2
  go_ret
  exact ⟨rfl, by repeat (first | exact Below.refl _ _ | apply below_alloc | apply pw_below_drewN | apply below_drew1)⟩
theorem rt_at {W : World} {A : Option Addr} {l : List Rt} (h : Kd.C k72 W A l.length l) (i : Nat) (hi : i < l.length) : ∃ ad, A = some ad ∧ W.cell? (ad.add (i * 2)) = some (.string l[i].f0) ∧ W.cell? ⟨(ad.add (i * 2)).block, (ad.add (i * 2)).off + 1, none⟩ = some (.int .i64 l[i].f1) := by
 obtain ⟨ad, e1, h0, h1⟩ := at_T72 h (i : Int) (by omega) (by omega)
 have hx : rd_T72 l (i : Int) = l[i] := by unfold rd_T72; rw [Int.toNat_natCast, List.getD_eq_getElem?_getD, List.getElem?_eq_getElem hi]; rfl
 rw [Int.toNat_natCast, hx] at h0 h1
 exact ⟨ad, e1, h0, h1⟩
set_option maxHeartbeats 16000000 in
set_option maxRecDepth 100000 in
theorem put6_U (A0 : Option Addr) (n0 c0 : Nat) (o p : Int) (ad : Addr) (c1 : Nat) (y : Rt) (t ta : ByteArray) (w : World) (hor : o = 6 ∨ o = 7 ∨ o = 8 ∨ o = 9 ∨ o = 10 ∨ o = 20) (hc : w.cell? ad = some (.string y.f0) ∧ w.cell? ⟨ad.block, ad.off + 1, none⟩ = some (.int .i64 y.f1)) (k : Int) (hs : ∀ W, Calls Tryz.prog 34 #[.int .u8 o] W fun e w' => e = .returned (.int .i64 k) ∧ Drawn0 W w') (ha : ∀ W, Calls Tryz.prog 42 #[.int .u8 o] W fun e w' => e = .returned (.string t) ∧ Drawn0 W w') (hw : ∀ W, Calls Tryz.prog 43 #[.agg #[.string y.f0, .int .i64 y.f1], .int .i64 6] W fun e w' => e = .returned (.string ta) ∧ Below W.heap.size W w') (h1 : t.size ≤ 10) (h2 : ta.size ≤ 1000000) :
  Calls Tryz.prog 33 #[.slice A0 n0 c0, .agg #[.int .u8 o, .int .u8 p], .slice (some ad) 1 c1] w fun e w' => e = .returned (.string (t ++ ta)) ∧ Below w.heap.size w w' := by
 have HS := Aside0.mk hs
 have HA := Aside0.mk ha
 have HW := Aside0.mk hw
 have z0 : (9223372036854775807 < t.size + ta.size) = False := eq_false (by omega)
 have zd0 : decide (9223372036854775807 < t.size + ta.size) = false := decide_eq_false (by omega)
 clear hs ha hw h1 h2
 have HC := Aside0.mk hc
 clear hc
 rcases hor with ho | ho | ho | ho | ho | ho
 all_goals
  first | have t0 : (o == 0) = false := by rw [ho]; rfl | have t0 : (o == 0) = true := by rw [ho]; rfl
  first | have t1 : (o == 1) = false := by rw [ho]; rfl | have t1 : (o == 1) = true := by rw [ho]; rfl
  first | have t3 : (o == 3) = false := by rw [ho]; rfl | have t3 : (o == 3) = true := by rw [ho]; rfl
  first | have t2 : (o == 2) = false := by rw [ho]; rfl | have t2 : (o == 2) = true := by rw [ho]; rfl
  first | have t6 : (o == 6) = false := by rw [ho]; rfl | have t6 : (o == 6) = true := by rw [ho]; rfl
  first | have t7 : (o == 7) = false := by rw [ho]; rfl | have t7 : (o == 7) = true := by rw [ho]; rfl
  first | have t8 : (o == 8) = false := by rw [ho]; rfl | have t8 : (o == 8) = true := by rw [ho]; rfl
  first | have t9 : (o == 9) = false := by rw [ho]; rfl | have t9 : (o == 9) = true := by rw [ho]; rfl
  first | have t10 : (o == 10) = false := by rw [ho]; rfl | have t10 : (o == 10) = true := by rw [ho]; rfl
  first | have t20 : (o == 20) = false := by rw [ho]; rfl | have t20 : (o == 20) = true := by rw [ho]; rfl
  first | have t19 : (o == 19) = false := by rw [ho]; rfl | have t19 : (o == 19) = true := by rw [ho]; rfl
  first | have t23 : (o == 23) = false := by rw [ho]; rfl | have t23 : (o == 23) = true := by rw [ho]; rfl
  first | have t17 : (o == 17) = false := by rw [ho]; rfl | have t17 : (o == 17) = true := by rw [ho]; rfl
  first | have t18 : (o == 18) = false := by rw [ho]; rfl | have t18 : (o == 18) = true := by rw [ho]; rfl
  first | have t13 : (o == 13) = false := by rw [ho]; rfl | have t13 : (o == 13) = true := by rw [ho]; rfl
  first | have t15 : (o == 15) = false := by rw [ho]; rfl | have t15 : (o == 15) = true := by rw [ho]; rfl
  first | have t16 : (o == 16) = false := by rw [ho]; rfl | have t16 : (o == 16) = true := by rw [ho]; rfl
  clear ho
  go_enter Tryz.func33, Tryz.ntmps33
  go_wp2_with (go_at_call 34; refine (HS.out _).mono ?_; rintro e wv ⟨rfl, hd⟩; have BK := Aside0.mk ((hd.below.block _ (blk_lt (blk_new w _))).trans (blk_new w (.cells #[.int .u8 o, .int .u8 p] 41))); have HB := Aside0.mk (below_step (below_alloc (Below.refl w.heap.size w) (.cells #[.int .u8 o, .int .u8 p] 41)) hd.below); clear hd HS; have b0wv : wv.cell? ⟨w.heap.size, 0, none⟩ = some (.int .u8 o) := (blk_cell BK.out 0).trans rfl; have b1wv : wv.cell? ⟨w.heap.size, 1, none⟩ = some (.int .u8 p) := (blk_cell BK.out 1).trans rfl; have y0wv : wv.cell? ad = some (.string y.f0) := below_cell HC.out.1 HB.out; have y1wv : wv.cell? ⟨ad.block, ad.off + 1, none⟩ = some (.int .i64 y.f1) := below_cell HC.out.2 HB.out)
  go_region_held3 (fun w' => w'.cell? ⟨w.heap.size, 0, none⟩ = some (.int .u8 o) ∧ w'.cell? ⟨w.heap.size, 1, none⟩ = some (.int .u8 p) ∧ w'.cell? ad = some (.string y.f0) ∧ w'.cell? ⟨ad.block, ad.off + 1, none⟩ = some (.int .i64 y.f1)) (first | exact ⟨by assumption, by assumption, by assumption, by assumption⟩ | go_keep) ((first | (go_at_call 42; with_reducible refine (HA.out _).mono ?_; rintro e wq ⟨rfl, hq⟩; have BK2 := Aside0.mk ((hq.below.block _ (blk_lt BK.out)).trans BK.out); have HB2 : Aside0 (Below w.heap.size w wq) := ⟨by first | exact below_step HB.out hq.below | exact below_step (below_drew1 HB.out) hq.below⟩; clear BK HB hq; have BK := BK2; have HB := HB2; clear BK2 HB2; have b0wq : wq.cell? ⟨w.heap.size, 0, none⟩ = some (.int .u8 o) := (blk_cell BK.out 0).trans rfl; have b1wq : wq.cell? ⟨w.heap.size, 1, none⟩ = some (.int .u8 p) := (blk_cell BK.out 1).trans rfl; have y0wq : wq.cell? ad = some (.string y.f0) := below_cell HC.out.1 HB.out; have y1wq : wq.cell? ⟨ad.block, ad.off + 1, none⟩ = some (.int .i64 y.f1) := below_cell HC.out.2 HB.out) | (go_at_call 43; with_reducible refine (HW.out _).mono ?_; rintro e wq ⟨rfl, hq⟩; have BK2 := Aside0.mk ((hq.block _ (blk_lt BK.out)).trans BK.out); have HB2 : Aside0 (Below w.heap.size w wq) := ⟨by first | exact below_step HB.out hq | exact below_step (below_drew1 HB.out) hq⟩; clear BK HB hq; have BK := BK2; have HB := HB2; clear BK2 HB2; have b0wq : wq.cell? ⟨w.heap.size, 0, none⟩ = some (.int .u8 o) := (blk_cell BK.out 0).trans rfl; have b1wq : wq.cell? ⟨w.heap.size, 1, none⟩ = some (.int .u8 p) := (blk_cell BK.out 1).trans rfl; have y0wq : wq.cell? ad = some (.string y.f0) := below_cell HC.out.1 HB.out; have y1wq : wq.cell? ⟨ad.block, ad.off + 1, none⟩ = some (.int .i64 y.f1) := below_cell HC.out.2 HB.out)))
  all_goals go_wp2_with fail
  all_goals go_ret
  all_goals exact ⟨rfl, by repeat (first | exact HB.out | apply below_alloc | apply pw_below_drewN | apply below_drew1)⟩
set_option maxHeartbeats 16000000 in
set_option maxRecDepth 100000 in
theorem put6_A (A0 : Option Addr) (n0 c0 : Nat) (o p : Int) (A2 : Value) (t : ByteArray) (w : World) (hor : (o = 0 ∧ t = ⟨#[116, 114, 117, 101]⟩) ∨ (o = 1 ∧ t = ⟨#[102, 97, 108, 115, 101]⟩) ∨ (o = 3 ∧ t = ⟨#[108, 97, 115, 116]⟩)) (k : Int) (hs : ∀ W, Calls Tryz.prog 34 #[.int .u8 o] W fun e w' => e = .returned (.int .i64 k) ∧ Drawn0 W w') :
  Calls Tryz.prog 33 #[.slice A0 n0 c0, .agg #[.int .u8 o, .int .u8 p], A2] w fun e w' => e = .returned (.string t) ∧ Below w.heap.size w w' := by
 have HS := Aside0.mk hs
 clear hs
 rcases hor with ⟨ho, rfl⟩ | ⟨ho, rfl⟩ | ⟨ho, rfl⟩
 all_goals
  first | have t0 : (o == 0) = false := by rw [ho]; rfl | have t0 : (o == 0) = true := by rw [ho]; rfl
  first | have t1 : (o == 1) = false := by rw [ho]; rfl | have t1 : (o == 1) = true := by rw [ho]; rfl
  first | have t3 : (o == 3) = false := by rw [ho]; rfl | have t3 : (o == 3) = true := by rw [ho]; rfl
  first | have t2 : (o == 2) = false := by rw [ho]; rfl | have t2 : (o == 2) = true := by rw [ho]; rfl
  first | have t6 : (o == 6) = false := by rw [ho]; rfl | have t6 : (o == 6) = true := by rw [ho]; rfl
  first | have t7 : (o == 7) = false := by rw [ho]; rfl | have t7 : (o == 7) = true := by rw [ho]; rfl
  first | have t8 : (o == 8) = false := by rw [ho]; rfl | have t8 : (o == 8) = true := by rw [ho]; rfl
  first | have t9 : (o == 9) = false := by rw [ho]; rfl | have t9 : (o == 9) = true := by rw [ho]; rfl
  first | have t10 : (o == 10) = false := by rw [ho]; rfl | have t10 : (o == 10) = true := by rw [ho]; rfl
  first | have t20 : (o == 20) = false := by rw [ho]; rfl | have t20 : (o == 20) = true := by rw [ho]; rfl
  first | have t19 : (o == 19) = false := by rw [ho]; rfl | have t19 : (o == 19) = true := by rw [ho]; rfl
  first | have t23 : (o == 23) = false := by rw [ho]; rfl | have t23 : (o == 23) = true := by rw [ho]; rfl
  first | have t17 : (o == 17) = false := by rw [ho]; rfl | have t17 : (o == 17) = true := by rw [ho]; rfl
  first | have t18 : (o == 18) = false := by rw [ho]; rfl | have t18 : (o == 18) = true := by rw [ho]; rfl
  first | have t13 : (o == 13) = false := by rw [ho]; rfl | have t13 : (o == 13) = true := by rw [ho]; rfl
  first | have t15 : (o == 15) = false := by rw [ho]; rfl | have t15 : (o == 15) = true := by rw [ho]; rfl
  first | have t16 : (o == 16) = false := by rw [ho]; rfl | have t16 : (o == 16) = true := by rw [ho]; rfl
  clear ho
  go_enter Tryz.func33, Tryz.ntmps33
  go_wp2_with (go_at_call 34; refine (HS.out _).mono ?_; rintro e wv ⟨rfl, hd⟩; have BK := Aside0.mk ((hd.below.block _ (blk_lt (blk_new w _))).trans (blk_new w (.cells #[.int .u8 o, .int .u8 p] 41))); have HB := Aside0.mk (below_step (below_alloc (Below.refl w.heap.size w) (.cells #[.int .u8 o, .int .u8 p] 41)) hd.below); clear hd HS; have b0wv : wv.cell? ⟨w.heap.size, 0, none⟩ = some (.int .u8 o) := (blk_cell BK.out 0).trans rfl; have b1wv : wv.cell? ⟨w.heap.size, 1, none⟩ = some (.int .u8 p) := (blk_cell BK.out 1).trans rfl)
  all_goals go_ret
  all_goals exact ⟨rfl, by repeat (first | exact HB.out | apply below_alloc | apply pw_below_drewN | apply below_drew1)⟩
set_option maxHeartbeats 16000000 in
set_option maxRecDepth 100000 in
theorem put6_B (A0 : Option Addr) (n0 c0 : Nat) (o p : Int) (ad : Addr) (c1 : Nat) (y : Rt) (w : World) (hor : o = 19) (hc : w.cell? ad = some (.string y.f0) ∧ w.cell? ⟨ad.block, ad.off + 1, none⟩ = some (.int .i64 y.f1)) (k : Int) (hs : ∀ W, Calls Tryz.prog 34 #[.int .u8 o] W fun e w' => e = .returned (.int .i64 k) ∧ Drawn0 W w') (h1 : y.f0.size ≤ 1000000) :
  Calls Tryz.prog 33 #[.slice A0 n0 c0, .agg #[.int .u8 o, .int .u8 p], .slice (some ad) 1 c1] w fun e w' => e = .returned (.string ((⟨#[123]⟩ ++ y.f0) ++ ⟨#[125]⟩)) ∧ Below w.heap.size w w' := by
 have HS := Aside0.mk hs
 have z0 : (9223372036854775807 < 1 + y.f0.size) = False := eq_false (by omega)
 have zd0 : decide (9223372036854775807 < 1 + y.f0.size) = false := decide_eq_false (by omega)
 have z1 : (9223372036854775807 < 1 + y.f0.size + 1) = False := eq_false (by omega)
 have zd1 : decide (9223372036854775807 < 1 + y.f0.size + 1) = false := decide_eq_false (by omega)
 clear hs h1
 have HC := Aside0.mk hc
 clear hc
 have ho := hor
 clear hor
 all_goals
  first | have t0 : (o == 0) = false := by rw [ho]; rfl | have t0 : (o == 0) = true := by rw [ho]; rfl
  first | have t1 : (o == 1) = false := by rw [ho]; rfl | have t1 : (o == 1) = true := by rw [ho]; rfl
  first | have t3 : (o == 3) = false := by rw [ho]; rfl | have t3 : (o == 3) = true := by rw [ho]; rfl
  first | have t2 : (o == 2) = false := by rw [ho]; rfl | have t2 : (o == 2) = true := by rw [ho]; rfl
  first | have t6 : (o == 6) = false := by rw [ho]; rfl | have t6 : (o == 6) = true := by rw [ho]; rfl
  first | have t7 : (o == 7) = false := by rw [ho]; rfl | have t7 : (o == 7) = true := by rw [ho]; rfl
  first | have t8 : (o == 8) = false := by rw [ho]; rfl | have t8 : (o == 8) = true := by rw [ho]; rfl
  first | have t9 : (o == 9) = false := by rw [ho]; rfl | have t9 : (o == 9) = true := by rw [ho]; rfl
  first | have t10 : (o == 10) = false := by rw [ho]; rfl | have t10 : (o == 10) = true := by rw [ho]; rfl
  first | have t20 : (o == 20) = false := by rw [ho]; rfl | have t20 : (o == 20) = true := by rw [ho]; rfl
  first | have t19 : (o == 19) = false := by rw [ho]; rfl | have t19 : (o == 19) = true := by rw [ho]; rfl
  first | have t23 : (o == 23) = false := by rw [ho]; rfl | have t23 : (o == 23) = true := by rw [ho]; rfl
  first | have t17 : (o == 17) = false := by rw [ho]; rfl | have t17 : (o == 17) = true := by rw [ho]; rfl
  first | have t18 : (o == 18) = false := by rw [ho]; rfl | have t18 : (o == 18) = true := by rw [ho]; rfl
  first | have t13 : (o == 13) = false := by rw [ho]; rfl | have t13 : (o == 13) = true := by rw [ho]; rfl
  first | have t15 : (o == 15) = false := by rw [ho]; rfl | have t15 : (o == 15) = true := by rw [ho]; rfl
  first | have t16 : (o == 16) = false := by rw [ho]; rfl | have t16 : (o == 16) = true := by rw [ho]; rfl
  clear ho
  go_enter Tryz.func33, Tryz.ntmps33
  go_wp2_with (go_at_call 34; refine (HS.out _).mono ?_; rintro e wv ⟨rfl, hd⟩; have BK := Aside0.mk ((hd.below.block _ (blk_lt (blk_new w _))).trans (blk_new w (.cells #[.int .u8 o, .int .u8 p] 41))); have HB := Aside0.mk (below_step (below_alloc (Below.refl w.heap.size w) (.cells #[.int .u8 o, .int .u8 p] 41)) hd.below); clear hd HS; have b0wv : wv.cell? ⟨w.heap.size, 0, none⟩ = some (.int .u8 o) := (blk_cell BK.out 0).trans rfl; have b1wv : wv.cell? ⟨w.heap.size, 1, none⟩ = some (.int .u8 p) := (blk_cell BK.out 1).trans rfl; have y0wv : wv.cell? ad = some (.string y.f0) := below_cell HC.out.1 HB.out; have y1wv : wv.cell? ⟨ad.block, ad.off + 1, none⟩ = some (.int .i64 y.f1) := below_cell HC.out.2 HB.out)
  all_goals go_ret
  all_goals exact ⟨rfl, by repeat (first | exact HB.out | apply below_alloc | apply pw_below_drewN | apply below_drew1)⟩
set_option maxHeartbeats 16000000 in
set_option maxRecDepth 100000 in
theorem put6_S (A0 : Option Addr) (n0 c0 : Nat) (o p : Int) (ad : Addr) (c1 : Nat) (y : Rt) (ta : ByteArray) (w : World) (hor : o = 23) (hc : w.cell? ad = some (.string y.f0) ∧ w.cell? ⟨ad.block, ad.off + 1, none⟩ = some (.int .i64 y.f1)) (k : Int) (hs : ∀ W, Calls Tryz.prog 34 #[.int .u8 o] W fun e w' => e = .returned (.int .i64 k) ∧ Drawn0 W w') (hw : ∀ W, Calls Tryz.prog 43 #[.agg #[.string y.f0, .int .i64 y.f1], .int .i64 3] W fun e w' => e = .returned (.string ta) ∧ Below W.heap.size W w') (h1 : ta.size ≤ 1000000) :
  Calls Tryz.prog 33 #[.slice A0 n0 c0, .agg #[.int .u8 o, .int .u8 p], .slice (some ad) 1 c1] w fun e w' => e = .returned (.string (ta ++ ⟨#[42]⟩)) ∧ Below w.heap.size w w' := by
 have HS := Aside0.mk hs
 have HW := Aside0.mk hw
 have z0 : (9223372036854775807 < ta.size + 1) = False := eq_false (by omega)
 have zd0 : decide (9223372036854775807 < ta.size + 1) = false := decide_eq_false (by omega)
 clear hs hw h1
 have HC := Aside0.mk hc
 clear hc
 have ho := hor
 clear hor
 all_goals
  first | have t0 : (o == 0) = false := by rw [ho]; rfl | have t0 : (o == 0) = true := by rw [ho]; rfl
  first | have t1 : (o == 1) = false := by rw [ho]; rfl | have t1 : (o == 1) = true := by rw [ho]; rfl
  first | have t3 : (o == 3) = false := by rw [ho]; rfl | have t3 : (o == 3) = true := by rw [ho]; rfl
  first | have t2 : (o == 2) = false := by rw [ho]; rfl | have t2 : (o == 2) = true := by rw [ho]; rfl
  first | have t6 : (o == 6) = false := by rw [ho]; rfl | have t6 : (o == 6) = true := by rw [ho]; rfl
  first | have t7 : (o == 7) = false := by rw [ho]; rfl | have t7 : (o == 7) = true := by rw [ho]; rfl
  first | have t8 : (o == 8) = false := by rw [ho]; rfl | have t8 : (o == 8) = true := by rw [ho]; rfl
  first | have t9 : (o == 9) = false := by rw [ho]; rfl | have t9 : (o == 9) = true := by rw [ho]; rfl
  first | have t10 : (o == 10) = false := by rw [ho]; rfl | have t10 : (o == 10) = true := by rw [ho]; rfl
  first | have t20 : (o == 20) = false := by rw [ho]; rfl | have t20 : (o == 20) = true := by rw [ho]; rfl
  first | have t19 : (o == 19) = false := by rw [ho]; rfl | have t19 : (o == 19) = true := by rw [ho]; rfl
  first | have t23 : (o == 23) = false := by rw [ho]; rfl | have t23 : (o == 23) = true := by rw [ho]; rfl
  first | have t17 : (o == 17) = false := by rw [ho]; rfl | have t17 : (o == 17) = true := by rw [ho]; rfl
  first | have t18 : (o == 18) = false := by rw [ho]; rfl | have t18 : (o == 18) = true := by rw [ho]; rfl
  first | have t13 : (o == 13) = false := by rw [ho]; rfl | have t13 : (o == 13) = true := by rw [ho]; rfl
  first | have t15 : (o == 15) = false := by rw [ho]; rfl | have t15 : (o == 15) = true := by rw [ho]; rfl
  first | have t16 : (o == 16) = false := by rw [ho]; rfl | have t16 : (o == 16) = true := by rw [ho]; rfl
  clear ho
  go_enter Tryz.func33, Tryz.ntmps33
  go_wp2_with (first | (go_at_call 34; refine (HS.out _).mono ?_; rintro e wv ⟨rfl, hd⟩; have BK := Aside0.mk ((hd.below.block _ (blk_lt (blk_new w _))).trans (blk_new w (.cells #[.int .u8 o, .int .u8 p] 41))); have HB := Aside0.mk (below_step (below_alloc (Below.refl w.heap.size w) (.cells #[.int .u8 o, .int .u8 p] 41)) hd.below); clear hd HS; have b0wv : wv.cell? ⟨w.heap.size, 0, none⟩ = some (.int .u8 o) := (blk_cell BK.out 0).trans rfl; have b1wv : wv.cell? ⟨w.heap.size, 1, none⟩ = some (.int .u8 p) := (blk_cell BK.out 1).trans rfl; have y0wv : wv.cell? ad = some (.string y.f0) := below_cell HC.out.1 HB.out; have y1wv : wv.cell? ⟨ad.block, ad.off + 1, none⟩ = some (.int .i64 y.f1) := below_cell HC.out.2 HB.out) | (go_at_call 43; with_reducible refine (HW.out _).mono ?_; rintro e wq ⟨rfl, hq⟩; have HB2 : Aside0 (Below w.heap.size w wq) := ⟨by first | exact below_step HB.out hq | exact below_step (below_drew1 HB.out) hq⟩; clear BK HB hq; have HB := HB2))
  all_goals go_ret
  all_goals exact ⟨rfl, by repeat (first | exact HB.out | apply below_alloc | apply pw_below_drewN | apply below_drew1)⟩
set_option maxHeartbeats 16000000 in
set_option maxRecDepth 100000 in
theorem put6_D (A0 : Option Addr) (n0 c0 : Nat) (o p : Int) (ad : Addr) (c1 : Nat) (y x : Rt) (ta : ByteArray) (w : World) (hor : o = 17) (hc : w.cell? ad = some (.string y.f0) ∧ w.cell? ⟨ad.block, ad.off + 1, none⟩ = some (.int .i64 y.f1) ∧ w.cell? ⟨ad.block, ad.off + 2, none⟩ = some (.string x.f0) ∧ w.cell? ⟨ad.block, ad.off + 2 + 1, none⟩ = some (.int .i64 x.f1)) (k : Int) (hs : ∀ W, Calls Tryz.prog 34 #[.int .u8 o] W fun e w' => e = .returned (.int .i64 k) ∧ Drawn0 W w') (hw : ∀ W, Calls Tryz.prog 43 #[.agg #[.string x.f0, .int .i64 x.f1], .int .i64 6] W fun e w' => e = .returned (.string ta) ∧ Below W.heap.size W w') (h1 : ta.size ≤ 1000000) (h2 : y.f0.size ≤ 1000000) :
  Calls Tryz.prog 33 #[.slice A0 n0 c0, .agg #[.int .u8 o, .int .u8 p], .slice (some ad) 2 c1] w fun e w' => e = .returned (.string (((⟨#[60]⟩ ++ y.f0) ++ ⟨#[62, 32]⟩) ++ ta)) ∧ Below w.heap.size w w' := by
 have HS := Aside0.mk hs
 have HW := Aside0.mk hw
 have z0 : (9223372036854775807 < 1 + y.f0.size) = False := eq_false (by omega)
 have zd0 : decide (9223372036854775807 < 1 + y.f0.size) = false := decide_eq_false (by omega)
 have z1 : (9223372036854775807 < 1 + y.f0.size + 2) = False := eq_false (by omega)
 have zd1 : decide (9223372036854775807 < 1 + y.f0.size + 2) = false := decide_eq_false (by omega)
 have z2 : (9223372036854775807 < 1 + y.f0.size + 2 + ta.size) = False := eq_false (by omega)
 have zd2 : decide (9223372036854775807 < 1 + y.f0.size + 2 + ta.size) = false := decide_eq_false (by omega)
 clear hs hw h1 h2
 have HC := Aside0.mk hc
 clear hc
 have ho := hor
 clear hor
 all_goals
  first | have t0 : (o == 0) = false := by rw [ho]; rfl | have t0 : (o == 0) = true := by rw [ho]; rfl
  first | have t1 : (o == 1) = false := by rw [ho]; rfl | have t1 : (o == 1) = true := by rw [ho]; rfl
  first | have t3 : (o == 3) = false := by rw [ho]; rfl | have t3 : (o == 3) = true := by rw [ho]; rfl
  first | have t2 : (o == 2) = false := by rw [ho]; rfl | have t2 : (o == 2) = true := by rw [ho]; rfl
  first | have t6 : (o == 6) = false := by rw [ho]; rfl | have t6 : (o == 6) = true := by rw [ho]; rfl
  first | have t7 : (o == 7) = false := by rw [ho]; rfl | have t7 : (o == 7) = true := by rw [ho]; rfl
  first | have t8 : (o == 8) = false := by rw [ho]; rfl | have t8 : (o == 8) = true := by rw [ho]; rfl
  first | have t9 : (o == 9) = false := by rw [ho]; rfl | have t9 : (o == 9) = true := by rw [ho]; rfl
  first | have t10 : (o == 10) = false := by rw [ho]; rfl | have t10 : (o == 10) = true := by rw [ho]; rfl
  first | have t20 : (o == 20) = false := by rw [ho]; rfl | have t20 : (o == 20) = true := by rw [ho]; rfl
  first | have t19 : (o == 19) = false := by rw [ho]; rfl | have t19 : (o == 19) = true := by rw [ho]; rfl
  first | have t23 : (o == 23) = false := by rw [ho]; rfl | have t23 : (o == 23) = true := by rw [ho]; rfl
  first | have t17 : (o == 17) = false := by rw [ho]; rfl | have t17 : (o == 17) = true := by rw [ho]; rfl
  first | have t18 : (o == 18) = false := by rw [ho]; rfl | have t18 : (o == 18) = true := by rw [ho]; rfl
  first | have t13 : (o == 13) = false := by rw [ho]; rfl | have t13 : (o == 13) = true := by rw [ho]; rfl
  first | have t15 : (o == 15) = false := by rw [ho]; rfl | have t15 : (o == 15) = true := by rw [ho]; rfl
  first | have t16 : (o == 16) = false := by rw [ho]; rfl | have t16 : (o == 16) = true := by rw [ho]; rfl
  clear ho
  go_enter Tryz.func33, Tryz.ntmps33
  go_wp2_with (go_at_call 34; refine (HS.out _).mono ?_; rintro e wv ⟨rfl, hd⟩; have BK := Aside0.mk ((hd.below.block _ (blk_lt (blk_new w _))).trans (blk_new w (.cells #[.int .u8 o, .int .u8 p] 41))); have HB := Aside0.mk (below_step (below_alloc (Below.refl w.heap.size w) (.cells #[.int .u8 o, .int .u8 p] 41)) hd.below); clear hd HS; have b0wv : wv.cell? ⟨w.heap.size, 0, none⟩ = some (.int .u8 o) := (blk_cell BK.out 0).trans rfl; have b1wv : wv.cell? ⟨w.heap.size, 1, none⟩ = some (.int .u8 p) := (blk_cell BK.out 1).trans rfl; have y0wv : wv.cell? ad = some (.string y.f0) := below_cell HC.out.1 HB.out; have y1wv : wv.cell? ⟨ad.block, ad.off + 1, none⟩ = some (.int .i64 y.f1) := below_cell HC.out.2.1 HB.out; have x0wv : wv.cell? ⟨ad.block, ad.off + 2, none⟩ = some (.string x.f0) := below_cell HC.out.2.2.1 HB.out; have x1wv : wv.cell? ⟨ad.block, ad.off + 2 + 1, none⟩ = some (.int .i64 x.f1) := below_cell HC.out.2.2.2 HB.out)
  go_region_held3 (fun w' => w'.cell? ⟨w.heap.size, 0, none⟩ = some (.int .u8 o) ∧ w'.cell? ⟨w.heap.size, 1, none⟩ = some (.int .u8 p) ∧ w'.cell? ad = some (.string y.f0) ∧ w'.cell? ⟨ad.block, ad.off + 1, none⟩ = some (.int .i64 y.f1) ∧ w'.cell? ⟨ad.block, ad.off + 2, none⟩ = some (.string x.f0) ∧ w'.cell? ⟨ad.block, ad.off + 2 + 1, none⟩ = some (.int .i64 x.f1)) (first | exact ⟨by assumption, by assumption, by assumption, by assumption, by assumption, by assumption⟩ | go_keep) ((first | (go_at_call 43; with_reducible refine (HW.out _).mono ?_; rintro e wq ⟨rfl, hq⟩; have BK2 := Aside0.mk ((hq.block _ (blk_lt BK.out)).trans BK.out); have HB2 : Aside0 (Below w.heap.size w wq) := ⟨by first | exact below_step HB.out hq | exact below_step (below_drew1 HB.out) hq⟩; clear BK HB hq; have BK := BK2; have HB := HB2; clear BK2 HB2; have b0wq : wq.cell? ⟨w.heap.size, 0, none⟩ = some (.int .u8 o) := (blk_cell BK.out 0).trans rfl; have b1wq : wq.cell? ⟨w.heap.size, 1, none⟩ = some (.int .u8 p) := (blk_cell BK.out 1).trans rfl; have y0wq : wq.cell? ad = some (.string y.f0) := below_cell HC.out.1 HB.out; have y1wq : wq.cell? ⟨ad.block, ad.off + 1, none⟩ = some (.int .i64 y.f1) := below_cell HC.out.2.1 HB.out; have x0wq : wq.cell? ⟨ad.block, ad.off + 2, none⟩ = some (.string x.f0) := below_cell HC.out.2.2.1 HB.out; have x1wq : wq.cell? ⟨ad.block, ad.off + 2 + 1, none⟩ = some (.int .i64 x.f1) := below_cell HC.out.2.2.2 HB.out)))
  all_goals go_wp2_with fail
  all_goals go_ret
  all_goals exact ⟨rfl, by repeat (first | exact HB.out | apply below_alloc | apply pw_below_drewN | apply below_drew1)⟩
set_option maxHeartbeats 16000000 in
set_option maxRecDepth 100000 in
theorem put6_E (A0 : Option Addr) (n0 c0 : Nat) (o p : Int) (ad : Addr) (c1 : Nat) (y x : Rt) (ta : ByteArray) (w : World) (hor : o = 18) (hc : w.cell? ad = some (.string y.f0) ∧ w.cell? ⟨ad.block, ad.off + 1, none⟩ = some (.int .i64 y.f1) ∧ w.cell? ⟨ad.block, ad.off + 2, none⟩ = some (.string x.f0) ∧ w.cell? ⟨ad.block, ad.off + 2 + 1, none⟩ = some (.int .i64 x.f1)) (k : Int) (hs : ∀ W, Calls Tryz.prog 34 #[.int .u8 o] W fun e w' => e = .returned (.int .i64 k) ∧ Drawn0 W w') (hw : ∀ W, Calls Tryz.prog 43 #[.agg #[.string x.f0, .int .i64 x.f1], .int .i64 6] W fun e w' => e = .returned (.string ta) ∧ Below W.heap.size W w') (h1 : ta.size ≤ 1000000) (h2 : y.f0.size ≤ 1000000) :
  Calls Tryz.prog 33 #[.slice A0 n0 c0, .agg #[.int .u8 o, .int .u8 p], .slice (some ad) 2 c1] w fun e w' => e = .returned (.string (((⟨#[91]⟩ ++ y.f0) ++ ⟨#[93, 32]⟩) ++ ta)) ∧ Below w.heap.size w w' := by
 have HS := Aside0.mk hs
 have HW := Aside0.mk hw
 have z0 : (9223372036854775807 < 1 + y.f0.size) = False := eq_false (by omega)
 have zd0 : decide (9223372036854775807 < 1 + y.f0.size) = false := decide_eq_false (by omega)
 have z1 : (9223372036854775807 < 1 + y.f0.size + 2) = False := eq_false (by omega)
 have zd1 : decide (9223372036854775807 < 1 + y.f0.size + 2) = false := decide_eq_false (by omega)
 have z2 : (9223372036854775807 < 1 + y.f0.size + 2 + ta.size) = False := eq_false (by omega)
 have zd2 : decide (9223372036854775807 < 1 + y.f0.size + 2 + ta.size) = false := decide_eq_false (by omega)
 clear hs hw h1 h2
 have HC := Aside0.mk hc
 clear hc
 have ho := hor
 clear hor
 all_goals
  first | have t0 : (o == 0) = false := by rw [ho]; rfl | have t0 : (o == 0) = true := by rw [ho]; rfl
  first | have t1 : (o == 1) = false := by rw [ho]; rfl | have t1 : (o == 1) = true := by rw [ho]; rfl
  first | have t3 : (o == 3) = false := by rw [ho]; rfl | have t3 : (o == 3) = true := by rw [ho]; rfl
  first | have t2 : (o == 2) = false := by rw [ho]; rfl | have t2 : (o == 2) = true := by rw [ho]; rfl
  first | have t6 : (o == 6) = false := by rw [ho]; rfl | have t6 : (o == 6) = true := by rw [ho]; rfl
  first | have t7 : (o == 7) = false := by rw [ho]; rfl | have t7 : (o == 7) = true := by rw [ho]; rfl
  first | have t8 : (o == 8) = false := by rw [ho]; rfl | have t8 : (o == 8) = true := by rw [ho]; rfl
  first | have t9 : (o == 9) = false := by rw [ho]; rfl | have t9 : (o == 9) = true := by rw [ho]; rfl
  first | have t10 : (o == 10) = false := by rw [ho]; rfl | have t10 : (o == 10) = true := by rw [ho]; rfl
  first | have t20 : (o == 20) = false := by rw [ho]; rfl | have t20 : (o == 20) = true := by rw [ho]; rfl
  first | have t19 : (o == 19) = false := by rw [ho]; rfl | have t19 : (o == 19) = true := by rw [ho]; rfl
  first | have t23 : (o == 23) = false := by rw [ho]; rfl | have t23 : (o == 23) = true := by rw [ho]; rfl
  first | have t17 : (o == 17) = false := by rw [ho]; rfl | have t17 : (o == 17) = true := by rw [ho]; rfl
  first | have t18 : (o == 18) = false := by rw [ho]; rfl | have t18 : (o == 18) = true := by rw [ho]; rfl
  first | have t13 : (o == 13) = false := by rw [ho]; rfl | have t13 : (o == 13) = true := by rw [ho]; rfl
  first | have t15 : (o == 15) = false := by rw [ho]; rfl | have t15 : (o == 15) = true := by rw [ho]; rfl
  first | have t16 : (o == 16) = false := by rw [ho]; rfl | have t16 : (o == 16) = true := by rw [ho]; rfl
  clear ho
  go_enter Tryz.func33, Tryz.ntmps33
  go_wp2_with (go_at_call 34; refine (HS.out _).mono ?_; rintro e wv ⟨rfl, hd⟩; have BK := Aside0.mk ((hd.below.block _ (blk_lt (blk_new w _))).trans (blk_new w (.cells #[.int .u8 o, .int .u8 p] 41))); have HB := Aside0.mk (below_step (below_alloc (Below.refl w.heap.size w) (.cells #[.int .u8 o, .int .u8 p] 41)) hd.below); clear hd HS; have b0wv : wv.cell? ⟨w.heap.size, 0, none⟩ = some (.int .u8 o) := (blk_cell BK.out 0).trans rfl; have b1wv : wv.cell? ⟨w.heap.size, 1, none⟩ = some (.int .u8 p) := (blk_cell BK.out 1).trans rfl; have y0wv : wv.cell? ad = some (.string y.f0) := below_cell HC.out.1 HB.out; have y1wv : wv.cell? ⟨ad.block, ad.off + 1, none⟩ = some (.int .i64 y.f1) := below_cell HC.out.2.1 HB.out; have x0wv : wv.cell? ⟨ad.block, ad.off + 2, none⟩ = some (.string x.f0) := below_cell HC.out.2.2.1 HB.out; have x1wv : wv.cell? ⟨ad.block, ad.off + 2 + 1, none⟩ = some (.int .i64 x.f1) := below_cell HC.out.2.2.2 HB.out)
  go_region_held3 (fun w' => w'.cell? ⟨w.heap.size, 0, none⟩ = some (.int .u8 o) ∧ w'.cell? ⟨w.heap.size, 1, none⟩ = some (.int .u8 p) ∧ w'.cell? ad = some (.string y.f0) ∧ w'.cell? ⟨ad.block, ad.off + 1, none⟩ = some (.int .i64 y.f1) ∧ w'.cell? ⟨ad.block, ad.off + 2, none⟩ = some (.string x.f0) ∧ w'.cell? ⟨ad.block, ad.off + 2 + 1, none⟩ = some (.int .i64 x.f1)) (first | exact ⟨by assumption, by assumption, by assumption, by assumption, by assumption, by assumption⟩ | go_keep) ((first | (go_at_call 43; with_reducible refine (HW.out _).mono ?_; rintro e wq ⟨rfl, hq⟩; have BK2 := Aside0.mk ((hq.block _ (blk_lt BK.out)).trans BK.out); have HB2 : Aside0 (Below w.heap.size w wq) := ⟨by first | exact below_step HB.out hq | exact below_step (below_drew1 HB.out) hq⟩; clear BK HB hq; have BK := BK2; have HB := HB2; clear BK2 HB2; have b0wq : wq.cell? ⟨w.heap.size, 0, none⟩ = some (.int .u8 o) := (blk_cell BK.out 0).trans rfl; have b1wq : wq.cell? ⟨w.heap.size, 1, none⟩ = some (.int .u8 p) := (blk_cell BK.out 1).trans rfl; have y0wq : wq.cell? ad = some (.string y.f0) := below_cell HC.out.1 HB.out; have y1wq : wq.cell? ⟨ad.block, ad.off + 1, none⟩ = some (.int .i64 y.f1) := below_cell HC.out.2.1 HB.out; have x0wq : wq.cell? ⟨ad.block, ad.off + 2, none⟩ = some (.string x.f0) := below_cell HC.out.2.2.1 HB.out; have x1wq : wq.cell? ⟨ad.block, ad.off + 2 + 1, none⟩ = some (.int .i64 x.f1) := below_cell HC.out.2.2.2 HB.out)))
  all_goals go_wp2_with fail
  all_goals go_ret
  all_goals exact ⟨rfl, by repeat (first | exact HB.out | apply below_alloc | apply pw_below_drewN | apply below_drew1)⟩
set_option maxHeartbeats 16000000 in
set_option maxRecDepth 100000 in
theorem put6_R (A0 : Option Addr) (n0 c0 : Nat) (o p : Int) (ad : Addr) (c1 : Nat) (y x : Rt) (t ta tb : ByteArray) (w : World) (hor : o = 13 ∨ o = 15 ∨ o = 16) (hc : w.cell? ad = some (.string y.f0) ∧ w.cell? ⟨ad.block, ad.off + 1, none⟩ = some (.int .i64 y.f1) ∧ w.cell? ⟨ad.block, ad.off + 2, none⟩ = some (.string x.f0) ∧ w.cell? ⟨ad.block, ad.off + 2 + 1, none⟩ = some (.int .i64 x.f1)) (k : Int) (hs : ∀ W, Calls Tryz.prog 34 #[.int .u8 o] W fun e w' => e = .returned (.int .i64 k) ∧ Drawn0 W w') (ha : ∀ W, Calls Tryz.prog 44 #[.int .u8 o] W fun e w' => e = .returned (.string t) ∧ Drawn0 W w') (hw : ∀ W, Calls Tryz.prog 43 #[.agg #[.string y.f0, .int .i64 y.f1], .int .i64 (k + 1)] W fun e w' => e = .returned (.string ta) ∧ Below W.heap.size W w') (hv : ∀ W, Calls Tryz.prog 43 #[.agg #[.string x.f0, .int .i64 x.f1], .int .i64 k] W fun e w' => e = .returned (.string tb) ∧ Below W.heap.size W w') (hk : 0 ≤ k ∧ k ≤ 6) (h0 : t.size ≤ 10) (h1 : ta.size ≤ 1000000) (h2 : tb.size ≤ 1000000) :
  Calls Tryz.prog 33 #[.slice A0 n0 c0, .agg #[.int .u8 o, .int .u8 p], .slice (some ad) 2 c1] w fun e w' => e = .returned (.string ((ta ++ t) ++ tb)) ∧ Below w.heap.size w w' := by
 have HS := Aside0.mk hs
 have HA := Aside0.mk ha
 have HW := Aside0.mk hw
 have HV := Aside0.mk hv
 have wk : IntKind.i64.wrap (k + 1) = k + 1 := by rw [i64_w]; unfold wrap64; omega
 have z0 : (9223372036854775807 < ta.size + t.size) = False := eq_false (by omega)
 have zd0 : decide (9223372036854775807 < ta.size + t.size) = false := decide_eq_false (by omega)
 have z1 : (9223372036854775807 < ta.size + t.size + tb.size) = False := eq_false (by omega)
 have zd1 : decide (9223372036854775807 < ta.size + t.size + tb.size) = false := decide_eq_false (by omega)
 clear hs ha hw hv hk h0 h1 h2
 have HC := Aside0.mk hc
 clear hc
 rcases hor with ho | ho | ho
 all_goals
  first | have t0 : (o == 0) = false := by rw [ho]; rfl | have t0 : (o == 0) = true := by rw [ho]; rfl
  first | have t1 : (o == 1) = false := by rw [ho]; rfl | have t1 : (o == 1) = true := by rw [ho]; rfl
  first | have t3 : (o == 3) = false := by rw [ho]; rfl | have t3 : (o == 3) = true := by rw [ho]; rfl
  first | have t2 : (o == 2) = false := by rw [ho]; rfl | have t2 : (o == 2) = true := by rw [ho]; rfl
  first | have t6 : (o == 6) = false := by rw [ho]; rfl | have t6 : (o == 6) = true := by rw [ho]; rfl
  first | have t7 : (o == 7) = false := by rw [ho]; rfl | have t7 : (o == 7) = true := by rw [ho]; rfl
  first | have t8 : (o == 8) = false := by rw [ho]; rfl | have t8 : (o == 8) = true := by rw [ho]; rfl
  first | have t9 : (o == 9) = false := by rw [ho]; rfl | have t9 : (o == 9) = true := by rw [ho]; rfl
  first | have t10 : (o == 10) = false := by rw [ho]; rfl | have t10 : (o == 10) = true := by rw [ho]; rfl
  first | have t20 : (o == 20) = false := by rw [ho]; rfl | have t20 : (o == 20) = true := by rw [ho]; rfl
  first | have t19 : (o == 19) = false := by rw [ho]; rfl | have t19 : (o == 19) = true := by rw [ho]; rfl
  first | have t23 : (o == 23) = false := by rw [ho]; rfl | have t23 : (o == 23) = true := by rw [ho]; rfl
  first | have t17 : (o == 17) = false := by rw [ho]; rfl | have t17 : (o == 17) = true := by rw [ho]; rfl
  first | have t18 : (o == 18) = false := by rw [ho]; rfl | have t18 : (o == 18) = true := by rw [ho]; rfl
  first | have t13 : (o == 13) = false := by rw [ho]; rfl | have t13 : (o == 13) = true := by rw [ho]; rfl
  first | have t15 : (o == 15) = false := by rw [ho]; rfl | have t15 : (o == 15) = true := by rw [ho]; rfl
  first | have t16 : (o == 16) = false := by rw [ho]; rfl | have t16 : (o == 16) = true := by rw [ho]; rfl
  clear ho
  go_enter Tryz.func33, Tryz.ntmps33
  go_wp2_with (go_at_call 34; refine (HS.out _).mono ?_; rintro e wv ⟨rfl, hd⟩; have BK := Aside0.mk ((hd.below.block _ (blk_lt (blk_new w _))).trans (blk_new w (.cells #[.int .u8 o, .int .u8 p] 41))); have HB := Aside0.mk (below_step (below_alloc (Below.refl w.heap.size w) (.cells #[.int .u8 o, .int .u8 p] 41)) hd.below); clear hd HS; have b0wv : wv.cell? ⟨w.heap.size, 0, none⟩ = some (.int .u8 o) := (blk_cell BK.out 0).trans rfl; have b1wv : wv.cell? ⟨w.heap.size, 1, none⟩ = some (.int .u8 p) := (blk_cell BK.out 1).trans rfl; have y0wv : wv.cell? ad = some (.string y.f0) := below_cell HC.out.1 HB.out; have y1wv : wv.cell? ⟨ad.block, ad.off + 1, none⟩ = some (.int .i64 y.f1) := below_cell HC.out.2.1 HB.out; have x0wv : wv.cell? ⟨ad.block, ad.off + 2, none⟩ = some (.string x.f0) := below_cell HC.out.2.2.1 HB.out; have x1wv : wv.cell? ⟨ad.block, ad.off + 2 + 1, none⟩ = some (.int .i64 x.f1) := below_cell HC.out.2.2.2 HB.out)
  go_region_held3 (fun w' => w'.cell? ⟨w.heap.size, 0, none⟩ = some (.int .u8 o) ∧ w'.cell? ⟨w.heap.size, 1, none⟩ = some (.int .u8 p) ∧ w'.cell? ad = some (.string y.f0) ∧ w'.cell? ⟨ad.block, ad.off + 1, none⟩ = some (.int .i64 y.f1) ∧ w'.cell? ⟨ad.block, ad.off + 2, none⟩ = some (.string x.f0) ∧ w'.cell? ⟨ad.block, ad.off + 2 + 1, none⟩ = some (.int .i64 x.f1)) (first | exact ⟨by assumption, by assumption, by assumption, by assumption, by assumption, by assumption⟩ | go_keep) ((first | (go_at_call 44; with_reducible refine (HA.out _).mono ?_; rintro e wq ⟨rfl, hq⟩; have BK2 := Aside0.mk ((hq.below.block _ (blk_lt BK.out)).trans BK.out); have HB2 : Aside0 (Below w.heap.size w wq) := ⟨by first | exact below_step HB.out hq.below | exact below_step (below_drew1 HB.out) hq.below⟩; clear BK HB hq; have BK := BK2; have HB := HB2; clear BK2 HB2; have b0wq : wq.cell? ⟨w.heap.size, 0, none⟩ = some (.int .u8 o) := (blk_cell BK.out 0).trans rfl; have b1wq : wq.cell? ⟨w.heap.size, 1, none⟩ = some (.int .u8 p) := (blk_cell BK.out 1).trans rfl; have y0wq : wq.cell? ad = some (.string y.f0) := below_cell HC.out.1 HB.out; have y1wq : wq.cell? ⟨ad.block, ad.off + 1, none⟩ = some (.int .i64 y.f1) := below_cell HC.out.2.1 HB.out; have x0wq : wq.cell? ⟨ad.block, ad.off + 2, none⟩ = some (.string x.f0) := below_cell HC.out.2.2.1 HB.out; have x1wq : wq.cell? ⟨ad.block, ad.off + 2 + 1, none⟩ = some (.int .i64 x.f1) := below_cell HC.out.2.2.2 HB.out) | (go_at_call 43; with_reducible refine (HW.out _).mono ?_; rintro e wq ⟨rfl, hq⟩; have BK2 := Aside0.mk ((hq.block _ (blk_lt BK.out)).trans BK.out); have HB2 : Aside0 (Below w.heap.size w wq) := ⟨by first | exact below_step HB.out hq | exact below_step (below_drew1 HB.out) hq⟩; clear BK HB hq; have BK := BK2; have HB := HB2; clear BK2 HB2; have b0wq : wq.cell? ⟨w.heap.size, 0, none⟩ = some (.int .u8 o) := (blk_cell BK.out 0).trans rfl; have b1wq : wq.cell? ⟨w.heap.size, 1, none⟩ = some (.int .u8 p) := (blk_cell BK.out 1).trans rfl; have y0wq : wq.cell? ad = some (.string y.f0) := below_cell HC.out.1 HB.out; have y1wq : wq.cell? ⟨ad.block, ad.off + 1, none⟩ = some (.int .i64 y.f1) := below_cell HC.out.2.1 HB.out; have x0wq : wq.cell? ⟨ad.block, ad.off + 2, none⟩ = some (.string x.f0) := below_cell HC.out.2.2.1 HB.out; have x1wq : wq.cell? ⟨ad.block, ad.off + 2 + 1, none⟩ = some (.int .i64 x.f1) := below_cell HC.out.2.2.2 HB.out) | (go_at_call 43; with_reducible refine (HV.out _).mono ?_; rintro e wq ⟨rfl, hq⟩; have BK2 := Aside0.mk ((hq.block _ (blk_lt BK.out)).trans BK.out); have HB2 : Aside0 (Below w.heap.size w wq) := ⟨by first | exact below_step HB.out hq | exact below_step (below_drew1 HB.out) hq⟩; clear BK HB hq; have BK := BK2; have HB := HB2; clear BK2 HB2; have b0wq : wq.cell? ⟨w.heap.size, 0, none⟩ = some (.int .u8 o) := (blk_cell BK.out 0).trans rfl; have b1wq : wq.cell? ⟨w.heap.size, 1, none⟩ = some (.int .u8 p) := (blk_cell BK.out 1).trans rfl; have y0wq : wq.cell? ad = some (.string y.f0) := below_cell HC.out.1 HB.out; have y1wq : wq.cell? ⟨ad.block, ad.off + 1, none⟩ = some (.int .i64 y.f1) := below_cell HC.out.2.1 HB.out; have x0wq : wq.cell? ⟨ad.block, ad.off + 2, none⟩ = some (.string x.f0) := below_cell HC.out.2.2.1 HB.out; have x1wq : wq.cell? ⟨ad.block, ad.off + 2 + 1, none⟩ = some (.int .i64 x.f1) := below_cell HC.out.2.2.2 HB.out)))
  all_goals go_wp2_with fail
  all_goals go_ret
  all_goals exact ⟨rfl, by repeat (first | exact HB.out | apply below_alloc | apply pw_below_drewN | apply below_drew1)⟩
set_option maxHeartbeats 16000000 in
set_option maxRecDepth 100000 in
theorem put6_N (A0 : Option Addr) (n0 c0 : Nat) (o p : Int) (ad : Addr) (c1 : Nat) (y x : Rt) (t ta tb : ByteArray) (w : World) (hor : o = 11 ∨ o = 12 ∨ o = 14 ∨ o = 21 ∨ o = 22) (hc : w.cell? ad = some (.string y.f0) ∧ w.cell? ⟨ad.block, ad.off + 1, none⟩ = some (.int .i64 y.f1) ∧ w.cell? ⟨ad.block, ad.off + 2, none⟩ = some (.string x.f0) ∧ w.cell? ⟨ad.block, ad.off + 2 + 1, none⟩ = some (.int .i64 x.f1)) (k : Int) (hs : ∀ W, Calls Tryz.prog 34 #[.int .u8 o] W fun e w' => e = .returned (.int .i64 k) ∧ Drawn0 W w') (ha : ∀ W, Calls Tryz.prog 44 #[.int .u8 o] W fun e w' => e = .returned (.string t) ∧ Drawn0 W w') (hw : ∀ W, Calls Tryz.prog 43 #[.agg #[.string y.f0, .int .i64 y.f1], .int .i64 k] W fun e w' => e = .returned (.string ta) ∧ Below W.heap.size W w') (hv : ∀ W, Calls Tryz.prog 43 #[.agg #[.string x.f0, .int .i64 x.f1], .int .i64 (k + 1)] W fun e w' => e = .returned (.string tb) ∧ Below W.heap.size W w') (hk : 0 ≤ k ∧ k ≤ 6) (h0 : t.size ≤ 10) (h1 : ta.size ≤ 1000000) (h2 : tb.size ≤ 1000000) :
  Calls Tryz.prog 33 #[.slice A0 n0 c0, .agg #[.int .u8 o, .int .u8 p], .slice (some ad) 2 c1] w fun e w' => e = .returned (.string ((ta ++ t) ++ tb)) ∧ Below w.heap.size w w' := by
 have HS := Aside0.mk hs
 have HA := Aside0.mk ha
 have HW := Aside0.mk hw
 have HV := Aside0.mk hv
 have wk : IntKind.i64.wrap (k + 1) = k + 1 := by rw [i64_w]; unfold wrap64; omega
 have z0 : (9223372036854775807 < ta.size + t.size) = False := eq_false (by omega)
 have zd0 : decide (9223372036854775807 < ta.size + t.size) = false := decide_eq_false (by omega)
 have z1 : (9223372036854775807 < ta.size + t.size + tb.size) = False := eq_false (by omega)
 have zd1 : decide (9223372036854775807 < ta.size + t.size + tb.size) = false := decide_eq_false (by omega)
 clear hs ha hw hv hk h0 h1 h2
 have HC := Aside0.mk hc
 clear hc
 rcases hor with ho | ho | ho | ho | ho
 all_goals
  first | have t0 : (o == 0) = false := by rw [ho]; rfl | have t0 : (o == 0) = true := by rw [ho]; rfl
  first | have t1 : (o == 1) = false := by rw [ho]; rfl | have t1 : (o == 1) = true := by rw [ho]; rfl
  first | have t3 : (o == 3) = false := by rw [ho]; rfl | have t3 : (o == 3) = true := by rw [ho]; rfl
  first | have t2 : (o == 2) = false := by rw [ho]; rfl | have t2 : (o == 2) = true := by rw [ho]; rfl
  first | have t6 : (o == 6) = false := by rw [ho]; rfl | have t6 : (o == 6) = true := by rw [ho]; rfl
  first | have t7 : (o == 7) = false := by rw [ho]; rfl | have t7 : (o == 7) = true := by rw [ho]; rfl
  first | have t8 : (o == 8) = false := by rw [ho]; rfl | have t8 : (o == 8) = true := by rw [ho]; rfl
  first | have t9 : (o == 9) = false := by rw [ho]; rfl | have t9 : (o == 9) = true := by rw [ho]; rfl
  first | have t10 : (o == 10) = false := by rw [ho]; rfl | have t10 : (o == 10) = true := by rw [ho]; rfl
  first | have t20 : (o == 20) = false := by rw [ho]; rfl | have t20 : (o == 20) = true := by rw [ho]; rfl
  first | have t19 : (o == 19) = false := by rw [ho]; rfl | have t19 : (o == 19) = true := by rw [ho]; rfl
  first | have t23 : (o == 23) = false := by rw [ho]; rfl | have t23 : (o == 23) = true := by rw [ho]; rfl
  first | have t17 : (o == 17) = false := by rw [ho]; rfl | have t17 : (o == 17) = true := by rw [ho]; rfl
  first | have t18 : (o == 18) = false := by rw [ho]; rfl | have t18 : (o == 18) = true := by rw [ho]; rfl
  first | have t13 : (o == 13) = false := by rw [ho]; rfl | have t13 : (o == 13) = true := by rw [ho]; rfl
  first | have t15 : (o == 15) = false := by rw [ho]; rfl | have t15 : (o == 15) = true := by rw [ho]; rfl
  first | have t16 : (o == 16) = false := by rw [ho]; rfl | have t16 : (o == 16) = true := by rw [ho]; rfl
  clear ho
  go_enter Tryz.func33, Tryz.ntmps33
  go_wp2_with (go_at_call 34; refine (HS.out _).mono ?_; rintro e wv ⟨rfl, hd⟩; have BK := Aside0.mk ((hd.below.block _ (blk_lt (blk_new w _))).trans (blk_new w (.cells #[.int .u8 o, .int .u8 p] 41))); have HB := Aside0.mk (below_step (below_alloc (Below.refl w.heap.size w) (.cells #[.int .u8 o, .int .u8 p] 41)) hd.below); clear hd HS; have b0wv : wv.cell? ⟨w.heap.size, 0, none⟩ = some (.int .u8 o) := (blk_cell BK.out 0).trans rfl; have b1wv : wv.cell? ⟨w.heap.size, 1, none⟩ = some (.int .u8 p) := (blk_cell BK.out 1).trans rfl; have y0wv : wv.cell? ad = some (.string y.f0) := below_cell HC.out.1 HB.out; have y1wv : wv.cell? ⟨ad.block, ad.off + 1, none⟩ = some (.int .i64 y.f1) := below_cell HC.out.2.1 HB.out; have x0wv : wv.cell? ⟨ad.block, ad.off + 2, none⟩ = some (.string x.f0) := below_cell HC.out.2.2.1 HB.out; have x1wv : wv.cell? ⟨ad.block, ad.off + 2 + 1, none⟩ = some (.int .i64 x.f1) := below_cell HC.out.2.2.2 HB.out)
  go_region_held3 (fun w' => w'.cell? ⟨w.heap.size, 0, none⟩ = some (.int .u8 o) ∧ w'.cell? ⟨w.heap.size, 1, none⟩ = some (.int .u8 p) ∧ w'.cell? ad = some (.string y.f0) ∧ w'.cell? ⟨ad.block, ad.off + 1, none⟩ = some (.int .i64 y.f1) ∧ w'.cell? ⟨ad.block, ad.off + 2, none⟩ = some (.string x.f0) ∧ w'.cell? ⟨ad.block, ad.off + 2 + 1, none⟩ = some (.int .i64 x.f1)) (first | exact ⟨by assumption, by assumption, by assumption, by assumption, by assumption, by assumption⟩ | go_keep) ((first | (go_at_call 44; with_reducible refine (HA.out _).mono ?_; rintro e wq ⟨rfl, hq⟩; have BK2 := Aside0.mk ((hq.below.block _ (blk_lt BK.out)).trans BK.out); have HB2 : Aside0 (Below w.heap.size w wq) := ⟨by first | exact below_step HB.out hq.below | exact below_step (below_drew1 HB.out) hq.below⟩; clear BK HB hq; have BK := BK2; have HB := HB2; clear BK2 HB2; have b0wq : wq.cell? ⟨w.heap.size, 0, none⟩ = some (.int .u8 o) := (blk_cell BK.out 0).trans rfl; have b1wq : wq.cell? ⟨w.heap.size, 1, none⟩ = some (.int .u8 p) := (blk_cell BK.out 1).trans rfl; have y0wq : wq.cell? ad = some (.string y.f0) := below_cell HC.out.1 HB.out; have y1wq : wq.cell? ⟨ad.block, ad.off + 1, none⟩ = some (.int .i64 y.f1) := below_cell HC.out.2.1 HB.out; have x0wq : wq.cell? ⟨ad.block, ad.off + 2, none⟩ = some (.string x.f0) := below_cell HC.out.2.2.1 HB.out; have x1wq : wq.cell? ⟨ad.block, ad.off + 2 + 1, none⟩ = some (.int .i64 x.f1) := below_cell HC.out.2.2.2 HB.out) | (go_at_call 43; with_reducible refine (HW.out _).mono ?_; rintro e wq ⟨rfl, hq⟩; have BK2 := Aside0.mk ((hq.block _ (blk_lt BK.out)).trans BK.out); have HB2 : Aside0 (Below w.heap.size w wq) := ⟨by first | exact below_step HB.out hq | exact below_step (below_drew1 HB.out) hq⟩; clear BK HB hq; have BK := BK2; have HB := HB2; clear BK2 HB2; have b0wq : wq.cell? ⟨w.heap.size, 0, none⟩ = some (.int .u8 o) := (blk_cell BK.out 0).trans rfl; have b1wq : wq.cell? ⟨w.heap.size, 1, none⟩ = some (.int .u8 p) := (blk_cell BK.out 1).trans rfl; have y0wq : wq.cell? ad = some (.string y.f0) := below_cell HC.out.1 HB.out; have y1wq : wq.cell? ⟨ad.block, ad.off + 1, none⟩ = some (.int .i64 y.f1) := below_cell HC.out.2.1 HB.out; have x0wq : wq.cell? ⟨ad.block, ad.off + 2, none⟩ = some (.string x.f0) := below_cell HC.out.2.2.1 HB.out; have x1wq : wq.cell? ⟨ad.block, ad.off + 2 + 1, none⟩ = some (.int .i64 x.f1) := below_cell HC.out.2.2.2 HB.out) | (go_at_call 43; with_reducible refine (HV.out _).mono ?_; rintro e wq ⟨rfl, hq⟩; have BK2 := Aside0.mk ((hq.block _ (blk_lt BK.out)).trans BK.out); have HB2 : Aside0 (Below w.heap.size w wq) := ⟨by first | exact below_step HB.out hq | exact below_step (below_drew1 HB.out) hq⟩; clear BK HB hq; have BK := BK2; have HB := HB2; clear BK2 HB2; have b0wq : wq.cell? ⟨w.heap.size, 0, none⟩ = some (.int .u8 o) := (blk_cell BK.out 0).trans rfl; have b1wq : wq.cell? ⟨w.heap.size, 1, none⟩ = some (.int .u8 p) := (blk_cell BK.out 1).trans rfl; have y0wq : wq.cell? ad = some (.string y.f0) := below_cell HC.out.1 HB.out; have y1wq : wq.cell? ⟨ad.block, ad.off + 1, none⟩ = some (.int .i64 y.f1) := below_cell HC.out.2.1 HB.out; have x0wq : wq.cell? ⟨ad.block, ad.off + 2, none⟩ = some (.string x.f0) := below_cell HC.out.2.2.1 HB.out; have x1wq : wq.cell? ⟨ad.block, ad.off + 2 + 1, none⟩ = some (.int .i64 x.f1) := below_cell HC.out.2.2.2 HB.out)))
  all_goals go_wp2_with fail
  all_goals go_ret
  all_goals exact ⟨rfl, by repeat (first | exact HB.out | apply below_alloc | apply pw_below_drewN | apply below_drew1)⟩
set_option maxHeartbeats 16000000 in
set_option maxRecDepth 100000 in
theorem put6_P (n0 c0 : Nat) (o p : Int) (A2 : Value) (an : Addr) (q : Nat) (t : ByteArray) (w : World) (hor : o = 2) (hp : p = q) (hq : q < n0 ∧ q < 256) (hn : w.cell? (an.add q) = some (.string t)) (k : Int) (hs : ∀ W, Calls Tryz.prog 34 #[.int .u8 o] W fun e w' => e = .returned (.int .i64 k) ∧ Drawn0 W w') :
  Calls Tryz.prog 33 #[.slice (some an) n0 c0, .agg #[.int .u8 o, .int .u8 p], A2] w fun e w' => e = .returned (.string t) ∧ Below w.heap.size w w' := by
 have HS := Aside0.mk hs
 have HN := Aside0.mk hn
 have n2 := eq_true hq.1
 have n3 : (q : Int) % 256 = q := by omega
 subst hp
 clear hs hn hq
 have ho := hor
 clear hor
 all_goals
  first | have t0 : (o == 0) = false := by rw [ho]; rfl | have t0 : (o == 0) = true := by rw [ho]; rfl
  first | have t1 : (o == 1) = false := by rw [ho]; rfl | have t1 : (o == 1) = true := by rw [ho]; rfl
  first | have t3 : (o == 3) = false := by rw [ho]; rfl | have t3 : (o == 3) = true := by rw [ho]; rfl
  first | have t2 : (o == 2) = false := by rw [ho]; rfl | have t2 : (o == 2) = true := by rw [ho]; rfl
  first | have t6 : (o == 6) = false := by rw [ho]; rfl | have t6 : (o == 6) = true := by rw [ho]; rfl
  first | have t7 : (o == 7) = false := by rw [ho]; rfl | have t7 : (o == 7) = true := by rw [ho]; rfl
  first | have t8 : (o == 8) = false := by rw [ho]; rfl | have t8 : (o == 8) = true := by rw [ho]; rfl
  first | have t9 : (o == 9) = false := by rw [ho]; rfl | have t9 : (o == 9) = true := by rw [ho]; rfl
  first | have t10 : (o == 10) = false := by rw [ho]; rfl | have t10 : (o == 10) = true := by rw [ho]; rfl
  first | have t20 : (o == 20) = false := by rw [ho]; rfl | have t20 : (o == 20) = true := by rw [ho]; rfl
  first | have t19 : (o == 19) = false := by rw [ho]; rfl | have t19 : (o == 19) = true := by rw [ho]; rfl
  first | have t23 : (o == 23) = false := by rw [ho]; rfl | have t23 : (o == 23) = true := by rw [ho]; rfl
  first | have t17 : (o == 17) = false := by rw [ho]; rfl | have t17 : (o == 17) = true := by rw [ho]; rfl
  first | have t18 : (o == 18) = false := by rw [ho]; rfl | have t18 : (o == 18) = true := by rw [ho]; rfl
  first | have t13 : (o == 13) = false := by rw [ho]; rfl | have t13 : (o == 13) = true := by rw [ho]; rfl
  first | have t15 : (o == 15) = false := by rw [ho]; rfl | have t15 : (o == 15) = true := by rw [ho]; rfl
  first | have t16 : (o == 16) = false := by rw [ho]; rfl | have t16 : (o == 16) = true := by rw [ho]; rfl
  clear ho
  go_enter Tryz.func33, Tryz.ntmps33
  go_wp2_with (go_at_call 34; refine (HS.out _).mono ?_; rintro e wv ⟨rfl, hd⟩; have BK := Aside0.mk ((hd.below.block _ (blk_lt (blk_new w _))).trans (blk_new w (.cells #[.int .u8 o, .int .u8 q] 41))); have HB := Aside0.mk (below_step (below_alloc (Below.refl w.heap.size w) (.cells #[.int .u8 o, .int .u8 q] 41)) hd.below); clear hd HS; have d1 : wv.cell? (an.add q) = some (.string t) := below_cell HN.out HB.out; have b0wv : wv.cell? ⟨w.heap.size, 0, none⟩ = some (.int .u8 o) := (blk_cell BK.out 0).trans rfl; have b1wv : wv.cell? ⟨w.heap.size, 1, none⟩ = some (.int .u8 q) := (blk_cell BK.out 1).trans rfl)
  all_goals go_ret
  all_goals exact ⟨rfl, by repeat (first | exact HB.out | apply below_alloc | apply pw_below_drewN | apply below_drew1)⟩
theorem strong_f {o : Int} (h0 : 0 ≤ o) (h1 : o ≤ 23) (h4 : o ≠ 4) (h5 : o ≠ 5) : rejoinderref06_strength.f o = some (strongR o) := by
 have hc : o = 0 ∨ o = 1 ∨ o = 2 ∨ o = 3 ∨ o = 6 ∨ o = 7 ∨ o = 8 ∨ o = 9 ∨ o = 10 ∨ o = 11 ∨ o = 12 ∨ o = 13 ∨ o = 14 ∨ o = 15 ∨ o = 16 ∨ o = 17 ∨ o = 18 ∨ o = 19 ∨ o = 20 ∨ o = 21 ∨ o = 22 ∨ o = 23 := by omega
 rcases hc with rfl | rfl | rfl | rfl | rfl | rfl | rfl | rfl | rfl | rfl | rfl | rfl | rfl | rfl | rfl | rfl | rfl | rfl | rfl | rfl | rfl | rfl <;> rfl
theorem strong_calls {o : Int} (h0 : 0 ≤ o) (h1 : o ≤ 23) (h4 : o ≠ 4) (h5 : o ≠ 5) (W : World) : Calls Tryz.prog 34 #[.int .u8 o] W fun e w' => e = .returned (.int .i64 (strongR o)) ∧ Drawn0 W w' := rejoinderref06_strength.calls o _ W (strong_f h0 h1 h4 h5)
theorem one_at {W : World} {A : Option Addr} {y : Rt} (h : Kd.C k72 W A [y].length [y]) : ∃ ad, A = some ad ∧ W.cell? ad = some (.string y.f0) ∧ W.cell? ⟨ad.block, ad.off + 1, none⟩ = some (.int .i64 y.f1) := by
 obtain ⟨ad, e, h0, h1⟩ := rt_at h 0 (by simp)
 rw [show 0 * 2 = 0 from rfl, Addr.add_zero'] at h0 h1
 exact ⟨ad, e, h0, h1⟩
theorem two_at {W : World} {A : Option Addr} {y x : Rt} (h : Kd.C k72 W A [y, x].length [y, x]) : ∃ ad, A = some ad ∧ W.cell? ad = some (.string y.f0) ∧ W.cell? ⟨ad.block, ad.off + 1, none⟩ = some (.int .i64 y.f1) ∧ W.cell? ⟨ad.block, ad.off + 2, none⟩ = some (.string x.f0) ∧ W.cell? ⟨ad.block, ad.off + 2 + 1, none⟩ = some (.int .i64 x.f1) := by
 obtain ⟨ad, e, h0, h1⟩ := rt_at h 0 (by simp)
 obtain ⟨ad2, e2, h2, h3⟩ := rt_at h 1 (by simp)
 subst e
 cases e2
 rw [show 0 * 2 = 0 from rfl, Addr.add_zero'] at h0 h1
 simp only [Nat.reduceMul, Nat.reduceEqDiff, Go.Addr.add, ↓reduceIte] at h2 h3
 exact ⟨ad, rfl, h0, h1, h2, h3⟩
theorem within_all (y : Rt) (n : Int) (h : y.f0.size ≤ 100000) (W : World) : Calls Tryz.prog 43 #[.agg #[.string y.f0, .int .i64 y.f1], .int .i64 n] W fun e w' => e = .returned (.string (withinR y n)) ∧ Below W.heap.size W w' := within6 y.f0 y.f1 n W (by omega)
theorem put6_calls (A0 : Option Addr) (c0 : Nat) (names : List ByteArray) (t : Tk) (A1 : Option Addr) (c1 : Nat) (a : List Rt) (s : ByteArray) (w : World) (hn : Kd.C Kd.string w A0 names.length names) (ha : Kd.C k72 w A1 a.length a) (hz : ∀ x ∈ a, x.f0.size ≤ 100000) (hp : t.f0 = 2 → t.f1 < names.length) (hp0 : 0 ≤ t.f1 ∧ t.f1 < 256) (h : textR names t a = some s) :
  Calls Tryz.prog 33 #[.slice A0 names.length c0, .agg #[.int .u8 t.f0, .int .u8 t.f1], .slice A1 a.length c1] w fun e w' => e = .returned (.string s) ∧ Below w.heap.size w w' := by
 obtain ⟨o, p⟩ := t
 have hp' : o = 2 → p < names.length := hp
 have hp0' : 0 ≤ p ∧ p < 256 := hp0
 clear hp hp0
 show Calls _ _ #[_, .agg #[.int .u8 o, .int .u8 p], _] w _
 unfold textR at h
 simp only at h
 have wz : ∀ x ∈ a, ∀ n, (withinR x n).size ≤ 1000000 := fun x hx n => by have := (withinR_size x n).2; have := hz x hx; omega
 have sz : ∀ x ∈ a, x.f0.size ≤ 1000000 := fun x hx => by have := hz x hx; omega
 by_cases c2 : o = 2
 ·rw [if_pos c2] at h
  cases h
  obtain ⟨an, rfl, en⟩ := name_at hn p.toNat (by have := hp' c2; omega)
  exact put6_P names.length c0 o p (.slice A1 a.length c1) an p.toNat _ w c2 (by omega) ⟨by have := hp' c2; omega, by omega⟩ en _ (strong_calls (by omega) (by omega) (by omega) (by omega))
 rw [if_neg c2] at h
 by_cases c_leaf : leafO o = true
 ·rw [if_pos c_leaf] at h
  have hor : o = 0 ∨ o = 1 ∨ o = 3 := by unfold leafO at c_leaf; simp only [Bool.or_eq_true, beq_iff_eq] at c_leaf; omega
  cases h
  exact put6_A A0 names.length c0 o p (.slice A1 a.length c1) _ w (by rcases hor with rfl | rfl | rfl; exact .inl ⟨rfl, rfl⟩; exact .inr (.inl ⟨rfl, rfl⟩); exact .inr (.inr ⟨rfl, rfl⟩)) _ (strong_calls (by omega) (by omega) (by omega) (by omega))
 rw [if_neg c_leaf] at h
 by_cases c_un : unO o = true
 ·rw [if_pos c_un] at h
  have hor : o = 6 ∨ o = 7 ∨ o = 8 ∨ o = 9 ∨ o = 10 ∨ o = 20 := by unfold unO at c_un; simp only [Bool.or_eq_true, beq_iff_eq] at c_un; omega
  match a, h with
  | [y], h =>
   cases h
   obtain ⟨ad, rfl, hc⟩ := one_at ha
   have hl : (lookAt o).left = 6 := by rcases hor with rfl | rfl | rfl | rfl | rfl | rfl <;> rfl
   rw [hl]
   exact put6_U A0 names.length c0 o p ad c1 y _ _ w hor hc _ (strong_calls (by omega) (by omega) (by omega) (by omega)) (fun W => rejoinderref06_ahead.calls o _ W (by rcases hor with rfl | rfl | rfl | rfl | rfl | rfl <;> rfl)) (within_all y 6 (hz y (by simp))) (by rcases hor with rfl | rfl | rfl | rfl | rfl | rfl <;> decide) (wz y (by simp) _)
 rw [if_neg c_un] at h
 by_cases c_b : o = 19
 ·rw [if_pos c_b] at h
  match a, h with
  | [y], h =>
   cases h
   obtain ⟨ad, rfl, hc⟩ := one_at ha
   subst c_b
   exact put6_B A0 names.length c0 19 p ad c1 y w rfl hc _ (strong_calls (by omega) (by omega) (by omega) (by omega)) (sz y (by simp))
 rw [if_neg c_b] at h
 by_cases c_s : o = 23
 ·rw [if_pos c_s] at h
  match a, h with
  | [y], h =>
   cases h
   obtain ⟨ad, rfl, hc⟩ := one_at ha
   subst c_s
   exact put6_S A0 names.length c0 23 p ad c1 y _ w rfl hc _ (strong_calls (by omega) (by omega) (by omega) (by omega)) (within_all y 3 (hz y (by simp))) (wz y (by simp) _)
 rw [if_neg c_s] at h
 by_cases c_d : o = 17
 ·rw [if_pos c_d] at h
  match a, h with
  | [y, x], h =>
   cases h
   obtain ⟨ad, rfl, hc⟩ := two_at ha
   subst c_d
   exact put6_D A0 names.length c0 17 p ad c1 y x _ w rfl hc _ (strong_calls (by omega) (by omega) (by omega) (by omega)) (within_all x 6 (hz x (by simp))) (wz x (by simp) _) (sz y (by simp))
 rw [if_neg c_d] at h
 by_cases c_e : o = 18
 ·rw [if_pos c_e] at h
  match a, h with
  | [y, x], h =>
   cases h
   obtain ⟨ad, rfl, hc⟩ := two_at ha
   subst c_e
   exact put6_E A0 names.length c0 18 p ad c1 y x _ w rfl hc _ (strong_calls (by omega) (by omega) (by omega) (by omega)) (within_all x 6 (hz x (by simp))) (wz x (by simp) _) (sz y (by simp))
 rw [if_neg c_e] at h
 by_cases c_bi : binO o = true
 ·rw [if_pos c_bi] at h
  have hor : (o = 13 ∨ o = 15 ∨ o = 16) ∨ (o = 11 ∨ o = 12 ∨ o = 14 ∨ o = 21 ∨ o = 22) := by unfold binO at c_bi; simp only [Bool.or_eq_true, beq_iff_eq] at c_bi; omega
  match a, h with
  | [y, x], h =>
   cases h
   obtain ⟨ad, rfl, hc⟩ := two_at ha
   rcases hor with hor | hor
   ·have hl : (lookAt o).left = strongR o + 1 ∧ (lookAt o).right = strongR o ∧ 0 ≤ strongR o ∧ strongR o ≤ 6 := by rcases hor with rfl | rfl | rfl <;> decide
    rw [hl.1, hl.2.1]
    exact put6_R A0 names.length c0 o p ad c1 y x _ _ _ w hor hc _ (strong_calls (by omega) (by omega) (by omega) (by omega)) (fun W => rejoinderref06_word.calls o _ W (by rcases hor with rfl | rfl | rfl <;> rfl)) (within_all y _ (hz y (by simp))) (within_all x _ (hz x (by simp))) hl.2.2 (by rcases hor with rfl | rfl | rfl <;> decide) (wz y (by simp) _) (wz x (by simp) _)
   ·have hl : (lookAt o).left = strongR o ∧ (lookAt o).right = strongR o + 1 ∧ 0 ≤ strongR o ∧ strongR o ≤ 6 := by rcases hor with rfl | rfl | rfl | rfl | rfl <;> decide
    rw [hl.1, hl.2.1]
    exact put6_N A0 names.length c0 o p ad c1 y x _ _ _ w hor hc _ (strong_calls (by omega) (by omega) (by omega) (by omega)) (fun W => rejoinderref06_word.calls o _ W (by rcases hor with rfl | rfl | rfl | rfl | rfl <;> rfl)) (within_all y _ (hz y (by simp))) (within_all x _ (hz x (by simp))) hl.2.2 (by rcases hor with rfl | rfl | rfl | rfl | rfl <;> decide) (wz y (by simp) _) (wz x (by simp) _)
 ·rw [if_neg c_bi] at h
  cases h
end Go.Proofs.YtaogoabnidbbpaaGreatDoor.PText
namespace Go.Proofs.YtaogoabnidbbpaaGreatDoor.PText
open Go.RowKit Go.Proofs.YtaogoabnidbbpaaGreatDoorW.PrintWords Go.Proofs.YtaogoabnidbbpaaGreatDoorW.PrintLast Go.Proofs.YtaogoabnidbbpaaGreatDoorW.PrintMore
set_option linter.unusedVariables false
set_option linter.unusedSimpArgs false
theorem info72 : (Tryz.prog.info? 72).map (fun i => (i.zero, i.size, i.bytes)) = some (some (.agg #[(.string ⟨#[]⟩), (.int .i64 0)]), 2, 24) := by kernel_rfl
theorem full_run (W : World) (ty : TypeId) (base : Nat) (A : Option Addr) (m c n : Nat) (st : List Rt) (p : Rt) (ok : Nat → Prop) (HO : Kd.R k72 72 W base ok (.slice A m c) st) (hb : base ≤ W.heap.size) (hn : n ≤ m) (hl : st.length ≤ 1000000) (a : Addr) (hnews : ∀ j u, [Value.string p.f0, Value.int .i64 p.f1][j]? = some u → W.cell? (a.add j) = some u) :
  ∃ v1 w1, (Builtin.append_ #[67, 67] ty #[.slice A n n, .slice (some a) 1 1]).run Tryz.prog W = .ok v1 w1 ∧ Kd.R k72 72 w1 base (fun _ => True) v1 (st.take n ++ [p]) ∧ W.grownBy w1 none := by
 obtain ⟨i0, hi, hzz⟩ := Option.map_eq_some_iff.1 info72
 simp only [Prod.mk.injEq] at hzz
 obtain ⟨hz0, hz1, hz2⟩ := hzz
 obtain ⟨h0, inner, ho, hr⟩ := HO
 obtain ⟨A', c', he⟩ := own_slice ho
 have hm : m = st.length := by injection he
 have hin : inner.length = m * 2 := by rw [hm]; exact ho.1
 have hlo : (inner.take (n * 2)).length = n * 2 := by rw [List.length_take]; omega
 have done : ∀ v1 w1, w1.ownsRow W.heap.size 72 2 v1 (n + 1) (inner.take (n * 2) ++ [Value.string p.f0, Value.int .i64 p.f1]) → Kd.R k72 72 w1 base (fun _ => True) v1 (st.take n ++ [p]) := by
  intro v1 w1 h
  refine ⟨fun _ _ => trivial, inner.take (n * 2) ++ [Value.string p.f0, Value.int .i64 p.f1], ?_, ?_⟩
  ·have e : (st.take n ++ [p]).length = n + 1 := by simp; omega
   rw [e]
   exact own_weaken h hb
  ·exact Reps.snoc (Reps.imp_ (Kd.reps_take hr (by omega)) (fun x cs (hx : k72.M W base _ x cs) => by
    have e := k72_open (k72.K_of_M hx)
    rw [e]
    exact k72_mkM _ _ _ x)) (k72_mkM _ _ _ p) rfl
 cases A with
 | none =>
  have hm0 : m = 0 := by
   rcases ho.2 with ⟨he, _⟩ | ⟨g, cap, cur, he, _⟩
   ·injection he
   ·cases he
  obtain rfl : n = 0 := by omega
  obtain ⟨v1, w1, hrun, r1, r2, _⟩ := run_append_own (P := Tryz.prog) W W.heap.size 67 ty 72 i0 _ 2 _ Tryz.underlying67 hi hz0 hz1 hz2 rfl (by omega) (.slice none 0 0) 0 [] (World.ownsRow_nil W _ 72 2) a 1 1 [Value.string p.f0, Value.int .i64 p.f1] rfl hnews (by simp [Value.oneCell']) (by simp [maxLen]) (by decide) (Nat.le_refl _)
  exact ⟨v1, w1, hrun, done v1 w1 (by simpa using r1), r2⟩
 | some b =>
  obtain ⟨v1, w1, hrun, r1, r2⟩ := run_append_arg_grows (P := Tryz.prog) W 67 ty 72 i0 _ 2 _ Tryz.underlying67 hi hz0 hz1 hz2 rfl (by omega) b n n (inner.take (n * 2)) hlo (fun j u hj => by
   have hb0 : b.off = 0 ∧ b.spot = none := by
    rcases ho.2 with ⟨he, _⟩ | ⟨g, cap, cur, he, _⟩
    ·cases he
    ·injection he with e1 e2 e3; cases e1; exact ⟨rfl, rfl⟩
   obtain ⟨bb, bo, bs⟩ := b
   obtain ⟨rfl, rfl⟩ : bo = 0 ∧ bs = none := hb0
   exact World.ownsRow.cells ho rfl j u (by
    obtain ⟨hjl, hv⟩ := List.getElem?_eq_some_iff.1 hj
    rw [List.getElem_take] at hv
    rw [← hv]
    exact List.getElem?_eq_getElem _)) a 1 1 [Value.string p.f0, Value.int .i64 p.f1] rfl hnews (by omega) (by simp [maxLen]; omega) (by omega)
  exact ⟨v1, w1, hrun, done v1 w1 r1, r2⟩
section
variable {ops : Array Oper} {o : Oper} {act : Act} {Q : Exit → Act → World → Prop} {Kc : Act → World → Prop}
theorem full_step {W : World} (base : Nat) (A : Option Addr) (m c n : Nat) (st : List Rt) (p : Rt) (ok : Nat → Prop) (hw : Region.wanted o (yielded ops act.tmps) = true) (s x : Operand) (ho : o.op = .call { callee := .builtin .append, args := #[s, x], argTypes := #[67, 67] }) (hs : act.eval s = .slice A n n) {g0 : Nat} (hx : act.eval x = .slice (some ⟨g0, 0, none⟩) 1 1)
  (HO : Kd.R k72 72 W base ok (.slice A m c) st) (hb : base ≤ W.heap.size) (hn : n ≤ m) (hl : st.length ≤ 1000000) (hB : W.heap[g0]? = some (.cells #[.string p.f0, .int .i64 p.f1] 72 (0, 0))) (k : ∀ v1 w1, Kd.R k72 72 w1 base (fun _ => True) v1 (st.take n ++ [p]) → W.grownBy w1 none → Kc (act.put o.dst v1) w1) :
  if Region.wanted o (yielded ops act.tmps) = true then Oper.wp Tryz.prog o act W Kc Q else Kc (act.put o.dst undef) W := by
 rw [if_pos hw]
 obtain ⟨v1, w1, hrun, hR, hg⟩ := full_run W o.type base A m c n st p ok HO hb hn hl ⟨g0, 0, none⟩ (by simpa using World.news_of_block (cs := #[.string p.f0, .int .i64 p.f1]) (t := 72) (fr := (0, 0)) hB)
 unfold Oper.wp execOp
 simp only [ho, resolve, invoke, builtin, Sem.run_bind, Sem.run_pure, Result.andThen_ok, List.map_toArray, List.map_cons, List.map_nil, hs, hx, hrun]
 exact k v1 w1 hR hg
end
end Go.Proofs.YtaogoabnidbbpaaGreatDoor.PText
