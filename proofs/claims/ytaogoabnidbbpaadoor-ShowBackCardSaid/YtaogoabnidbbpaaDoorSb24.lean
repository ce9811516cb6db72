/- Texts of this work merged into one file, what the law does not need left out: TextBacks2; TextBack; TextShows. Conditions stand in each law. -/
import Derived.Below
import Derived.Deep.Draws
import Derived.Deep.AppendLies
import Derived.Maps.AppendAt
import Derived.OwnWalk
import Derived.Laws.BytesArg
import Derived.Laws.MakeOwn
import Derived.Laws.OwnMore
import Derived.Deep.OwnRows
import Derived.Tactics
import Derived.Lib.ConvBytes
import Derived.Laws.Slices
import Derived.WalkKit
import Derived.KernelRfl
import Derived.RowKit3
import Derived.Deep.LoopGhost
import Derived.Deep.QuietTactic
import Derived.BigQuiet
import Derived.WideLaws
import Derived.Deep.DeepCutAuto
import Derived.Deep.CutBlock
import Derived.Deep.RegionHeld3
import Derived.Laws.Rows
import Derived.Lib.AppendStr
import Derived.ArgAppend
import Derived.Laws.IdiomCopy
import Derived.RowKit
import Derived.OrdersHeld
import Derived.Laws.BitsLemmas
import Derived.Laws.StructEq
import Derived.Test.YtaogoabnidbbpaaDoorProg
import Derived.Shelf.Strings.Builder1
import Derived.Shelf.Strings.BuilderF
import Derived.Shelf.Strings.BuilderK
import Derived.Shelf.Strings.Fields
import Derived.Lib.SmallJoins
import Derived.BigCall
import Derived.WalkMore
import Derived.Lib.OthersKept
import Derived.Lib.FrozenHead
import Derived.WalkSmall
import Derived.Maps.OwnOps
import Derived.Maps.Views
import Derived.Laws.Tables
import Derived.Deep.WholeRow
import Derived.Test.YtaogoabnidbbpaaDoorSb1
import Derived.Test.YtaogoabnidbbpaaDoorSb2
import Derived.Test.YtaogoabnidbbpaaDoorSb3
import Derived.Test.YtaogoabnidbbpaaDoorSb4
import Derived.Test.YtaogoabnidbbpaaDoorSb5
import Derived.Test.YtaogoabnidbbpaaDoorSb6
import Derived.Test.YtaogoabnidbbpaaDoorSb7
import Derived.Test.YtaogoabnidbbpaaDoorSb8
import Derived.Test.YtaogoabnidbbpaaDoorSb9
import Derived.Test.YtaogoabnidbbpaaDoorSb10
import Derived.Test.YtaogoabnidbbpaaDoorSb11
import Derived.Test.YtaogoabnidbbpaaDoorSb12
import Derived.Test.YtaogoabnidbbpaaDoorSb13
import Derived.Test.YtaogoabnidbbpaaDoorSb14
import Derived.Test.YtaogoabnidbbpaaDoorSb15
import Derived.Test.YtaogoabnidbbpaaDoorSb16
import Derived.Test.YtaogoabnidbbpaaDoorSb17
import Derived.Test.YtaogoabnidbbpaaDoorSb18
import Derived.Test.YtaogoabnidbbpaaDoorSb19
import Derived.Test.YtaogoabnidbbpaaDoorSb20
import Derived.Test.YtaogoabnidbbpaaDoorSb21
import Derived.Test.YtaogoabnidbbpaaDoorSb22
import Derived.Test.YtaogoabnidbbpaaDoorSb23
/-! TextBacks2 -/
namespace Go.Proofs.YtaogoabnidbbpaaDoor.PText
open Go.RowKit Go.Proofs.YtaogoabnidbbpaaDoorW.PrintWords Go.Proofs.YtaogoabnidbbpaaDoorW.PrintLast Go.Proofs.YtaogoabnidbbpaaDoorW.PrintMore
set_option linter.unusedVariables false
theorem back_ne {s q : Bs} (h : nameL s = true) (hq : nameL q = false) : s ≠ q := by rintro rfl; rw [h] at hq; cases hq
theorem back_sort {s : Bs} (h : nameL s = true) : sortL s = (2, true) := by
  have h1 : signs.contains s = false := by
    cases hc : signs.contains s with
    | false => rfl
    | true =>
      have hm := List.contains_iff_mem.1 hc
      exact absurd ((by decide : ∀ q ∈ signs, nameL q = false) s hm) (by rw [h]; decide)
  have h2 : keys.contains s = false := by
    cases hc : keys.contains s with
    | false => rfl
    | true =>
      have hm := List.contains_iff_mem.1 hc
      exact absurd ((by decide : ∀ q ∈ keys, nameL q = false) s hm) (by rw [h]; decide)
  unfold sortL
  rw [h1, h2, h]; rfl
theorem back_word {s : Bs} (h : nameL s = true) : s.all wordB = true ∧ s ≠ [] := by
  unfold nameL at h
  simp only [Bool.and_eq_true, decide_eq_true_eq] at h
  refine ⟨?_, by rintro rfl; simp at h⟩
  cases s with
  | nil => rfl
  | cons c t =>
    have h2 := h.2
    simp only [Bool.and_eq_true] at h2
    rw [List.all_cons, Bool.and_eq_true]
    refine ⟨by unfold wordB; rw [h2.1]; rfl, ?_⟩
    rw [List.all_eq_true] at h2 ⊢
    intro x hx
    have := h2.2 x hx
    unfold wordB
    simp only [Bool.or_eq_true] at this ⊢
    rcases this with h | h
    · exact .inl (.inl h)
    · exact .inr h
theorem chk_from (l : List ByteArray) : ∀ seen, chkFrom seen l = 0 → ∀ j (hj : j < l.length), nameL l[j].data.toList = true ∧ l[j].data.toList ∉ seen ∧ ∀ i (hi : i < j), l[i].data.toList ≠ l[j].data.toList := by
  induction l with
  | nil => intro seen _ j hj; cases hj
  | cons s t ih =>
    intro seen h j hj
    rw [chk_cons] at h
    by_cases hn : nameL s.data.toList = false
    · rw [if_pos hn] at h; exact absurd h (by decide)
    · rw [if_neg hn] at h
      by_cases hs : s.data.toList ∈ seen
      · rw [if_pos hs] at h; exact absurd h (by decide)
      · rw [if_neg hs] at h
        cases j with
        | zero => exact ⟨by simpa using hn, hs, fun i hi => by cases hi⟩
        | succ j =>
          obtain ⟨h1, h2, h3⟩ := ih _ h j (by simpa using hj)
          simp only [List.getElem_cons_succ]
          refine ⟨h1, fun hm => h2 (List.mem_append_left _ hm), fun i hi => ?_⟩
          cases i with
          | zero => exact fun e => h2 (List.mem_append_right _ (by simp only [List.getElem_cons_zero] at e; rw [e]; exact List.mem_cons_self))
          | succ i => simp only [List.getElem_cons_succ]; exact h3 i (by omega)
theorem chk_name {names : List ByteArray} (h : chk names = 0) (i : Nat) (hi : i < names.length) : nameL names[i].data.toList = true ∧ placeOf names names[i].data.toList = some i := by
  unfold chk at h
  split at h
  · exact absurd h (by decide)
  · obtain ⟨h1, -, h3⟩ := chk_from names [] h i hi
    refine ⟨h1, ?_⟩
    unfold placeOf
    rw [List.findIdx?_eq_some_iff_getElem]
    exact ⟨hi, by simp, fun j hj => by simpa using h3 j hj⟩
theorem p_name {names : List ByteArray} (h : chk names = 0) (i : Nat) (hi : i < names.length) : PartF names [(⟨2, (i : Int)⟩ : Tk)] ⟨names.getD i ⟨#[]⟩, 7⟩ := by
  obtain ⟨hn, hp⟩ := chk_name h i hi
  have e : names.getD i ⟨#[]⟩ = names[i] := by simp [List.getD, List.getElem?_eq_getElem hi]
  rw [e]
  obtain ⟨s, hs⟩ : ∃ s, s = names[i].data.toList := ⟨_, rfl⟩
  obtain ⟨ha, hne⟩ := back_word hn
  have hsort := back_sort hn
  rw [← hs] at hn hp ha hne hsort
  have hlv : LvF names 6 [(⟨2, (i : Int)⟩ : Tk)] [(2, s)] := by
    intro r
    refine .atom ?_ ?_ (.name ?_ (back_ne hn (by decide)) hne hp)
    · show ∀ p ∈ pres, s ≠ p.1
      intro p hp2
      exact back_ne hn ((by decide : ∀ p ∈ pres, nameL p.1 = false) p hp2)
    · show ∀ p ∈ modals, s ≠ p.1
      intro p hp2
      exact back_ne hn ((by decide : ∀ p ∈ modals, nameL p.1 = false) p hp2)
    · intro p hp2
      exact back_ne hn ((by decide : ∀ p ∈ words0, nameL p.1 = false) p hp2)
  refine ⟨[(2, s)], ?_, good_of (k := 6) (by decide) (by decide) (.inr rfl) hlv, by show (1 : Int) ≤ 7; decide⟩
  show LexR names[i].data.toList _
  rw [← hs]
  have := lex_word hne ha (by rw [hsort]) (v := []) (by intro c t e; cases e) .nil
  rw [List.append_nil, hsort] at this
  exact this
/-- Blocks of tokens, their parts, their texts (the top first). -/
inductive Stk (names : List ByteArray) : List Tk → List Trm.Pt → List S117 → Prop
  | nil : Stk names [] [] []
  | cons {ts b : List Tk} {st : List Trm.Pt} {sk : List S117} {p : Trm.Pt} {x : S117} : Stk names ts st sk → (p.f0 = false → PartF names b x) → (p.f0 = true → PartP names b x) → Stk names (ts ++ b) (st ++ [p]) (x :: sk)
theorem Stk.inv {names : List ByteArray} {ts : List Tk} {st : List Trm.Pt} {sk : List S117} (h : Stk names ts st sk) (hl : 1 ≤ st.length) :
    ∃ ts' b st' sk' p x, ts = ts' ++ b ∧ st = st' ++ [p] ∧ sk = x :: sk' ∧ Stk names ts' st' sk' ∧ (p.f0 = false → PartF names b x) ∧ (p.f0 = true → PartP names b x) := by
  cases h with
  | nil => exact absurd hl (by decide)
  | cons h1 h2 h3 => exact ⟨_, _, _, _, _, _, rfl, rfl, rfl, h1, h2, h3⟩
theorem put_exact {st : List S117} {a : ByteArray} {k : Int} {sk : List S117} (h : some (putS st false a k) = some (sk, false)) : sk = ⟨a, k⟩ :: st := by
  unfold putS at h
  by_cases c : a.size > 4096
  · rw [if_pos c, if_pos c] at h; cases h
  · rw [if_neg c, if_neg c] at h; cases h; rfl
theorem takeS_one {α : Type} (l : List α) (p : α) : (l ++ [p]).take ((l ++ [p]).length - 1) = l ∧ (l ++ [p]).drop ((l ++ [p]).length - 1) = [p] := by
  have e : (l ++ [p]).length - 1 = l.length := by simp
  rw [e]
  exact ⟨List.take_left' rfl, List.drop_left' rfl⟩
theorem takeS_two {α : Type} (l : List α) (p q : α) : (l ++ [p] ++ [q]).take ((l ++ [p] ++ [q]).length - 2) = l ∧ (l ++ [p] ++ [q]).drop ((l ++ [p] ++ [q]).length - 2) = [p, q] := by
  have e : (l ++ [p] ++ [q]).length - 2 = l.length := by simp
  rw [e, List.append_assoc]
  exact ⟨List.take_left' rfl, List.drop_left' rfl⟩
theorem Stk.two {names : List ByteArray} {ts : List Tk} {st : List Trm.Pt} {sk : List S117} (h : Stk names ts st sk) (hl : 2 ≤ st.length) :
    ∃ ts' a b st' sk' p1 p2 y x, ts = ts' ++ a ++ b ∧ st = st' ++ [p1] ++ [p2] ∧ sk = x :: y :: sk' ∧ Stk names ts' st' sk' ∧ (p1.f0 = false → PartF names a y) ∧ (p1.f0 = true → PartP names a y) ∧ (p2.f0 = false → PartF names b x) ∧ (p2.f0 = true → PartP names b x) := by
  obtain ⟨ts1, b, st1, sk1, p2, x, rfl, rfl, rfl, h1, h2, h3⟩ := h.inv (by omega)
  obtain ⟨ts2, a, st2, sk2, p1, y, rfl, rfl, rfl, h4, h5, h6⟩ := h1.inv (by rw [List.length_append] at hl; simp at hl; omega)
  exact ⟨ts2, a, b, st2, sk2, p1, p2, y, x, rfl, rfl, rfl, h4, h5, h6, h2, h3⟩
theorem Stk.put {names : List ByteArray} {ts B : List Tk} {st : List Trm.Pt} {sk : List S117} {p : Trm.Pt} {x : S117} (h : Stk names ts st sk) (hF : p.f0 = false → PartF names B x) (hP : p.f0 = true → PartP names B x) : Stk names (ts ++ B) (st ++ [p]) (x :: sk) := .cons h hF hP
set_option maxRecDepth 10000 in
theorem stk_step {names : List ByteArray} (hc : chk names = 0) {ts : List Tk} {st : List Trm.Pt} {sk : List S117} {i : Nat} {t : Tk} {q : List Trm.Pt × Trm.Pt} (h : Stk names ts st sk) (hq : Trm.step i st t = some q) (h4 : t.f0 ≠ 4) (h5 : t.f0 ≠ 5)
    (hp0 : 0 ≤ t.f1) (hp : t.f0 = 2 → t.f1 < names.length) {sk1 : List S117} (hs : stepS names sk false t = some (sk1, false)) : Stk names (ts ++ [t]) (q.1 ++ [q.2]) sk1 := by
  obtain ⟨o, p⟩ := t
  obtain ⟨n, hn, hl, hf, rfl⟩ := Trm.step_some hq
  have hp0' : 0 ≤ p := hp0
  have hp' : o = 2 → p < names.length := hp
  have h4' : o ≠ 4 := h4
  have h5' : o ≠ 5 := h5
  have hn' : Trm.takesN o p = some n := hn
  have hf' : Trm.fitsB o (st.drop (st.length - n)) = true := hf
  clear hn hf hp0 hp h4 h5 hq
  have hz : o ≠ 2 → p = 0 := by
    intro ho
    unfold Trm.takesN at hn'
    split at hn'
    · cases hn'
    · omega
  unfold stepS at hs
  simp only at hs
  by_cases c2 : o = 2
  · rw [if_pos c2] at hs
    obtain rfl := put_exact hs
    subst c2
    obtain ⟨k, rfl⟩ : ∃ k : Nat, p = k := ⟨p.toNat, by omega⟩
    have hk : k < names.length := by have := hp' rfl; omega
    have n0 : n = 0 := by unfold Trm.takesN at hn'; split at hn' <;> simp at hn' ; exact hn'.symm
    subst n0
    have e : st.take (st.length - 0) = st := by rw [Nat.sub_zero, List.take_length]
    rw [e]
    exact h.put (fun _ => by rw [Int.toNat_natCast]; exact p_name hc k hk) (fun e => by exact absurd e (by show ¬ decide ((2 : Int) ≥ 19) = true; decide))
  rw [if_neg c2] at hs
  obtain rfl := hz c2
  by_cases c_leaf : leafO o = true
  · rw [if_pos c_leaf] at hs
    have hor : o = 0 ∨ o = 1 ∨ o = 3 := by unfold leafO at c_leaf; simp only [Bool.or_eq_true, beq_iff_eq] at c_leaf; omega
    clear c_leaf
    rcases hor with rfl | rfl | rfl
    · skip
      obtain rfl := put_exact hs
      obtain rfl : n = 0 := by have e : Trm.takesN 0 0 = some 0 := (by decide); exact Option.some.inj (hn'.symm.trans e)
      have e : st.take (st.length - 0) = st := by rw [Nat.sub_zero, List.take_length]
      rw [e]
      exact h.put (fun _ => p_word (M := ⟨#[116, 114, 117, 101]⟩) (by decide) (by decide) (by decide) (by decide)) (fun e => by exact absurd e (by show ¬ decide ((0 : Int) ≥ 19) = true; decide))
    · skip
      obtain rfl := put_exact hs
      obtain rfl : n = 0 := by have e : Trm.takesN 1 0 = some 0 := (by decide); exact Option.some.inj (hn'.symm.trans e)
      have e : st.take (st.length - 0) = st := by rw [Nat.sub_zero, List.take_length]
      rw [e]
      exact h.put (fun _ => p_word (M := ⟨#[102, 97, 108, 115, 101]⟩) (by decide) (by decide) (by decide) (by decide)) (fun e => by exact absurd e (by show ¬ decide ((1 : Int) ≥ 19) = true; decide))
    · skip
      obtain rfl := put_exact hs
      obtain rfl : n = 0 := by have e : Trm.takesN 3 0 = some 0 := (by decide); exact Option.some.inj (hn'.symm.trans e)
      have e : st.take (st.length - 0) = st := by rw [Nat.sub_zero, List.take_length]
      rw [e]
      exact h.put (fun _ => p_word (M := ⟨#[108, 97, 115, 116]⟩) (by decide) (by decide) (by decide) (by decide)) (fun e => by exact absurd e (by show ¬ decide ((3 : Int) ≥ 19) = true; decide))
  rw [if_neg c_leaf] at hs
  by_cases c_un : unO o = true
  · rw [if_pos c_un] at hs
    have hor : o = 6 ∨ o = 7 ∨ o = 8 ∨ o = 9 ∨ o = 10 ∨ o = 20 := by unfold unO at c_un; simp only [Bool.or_eq_true, beq_iff_eq] at c_un; omega
    clear c_un
    rcases hor with rfl | rfl | rfl | rfl | rfl | rfl
    · skip
      obtain rfl : n = 1 := by have e : Trm.takesN 6 0 = some 1 := (by decide); exact Option.some.inj (hn'.symm.trans e)
      obtain ⟨ts', b, st', sk', p1, x, rfl, rfl, rfl, h1, h2, h3⟩ := h.inv hl
      obtain ⟨e1, e2⟩ := takeS_one st' p1
      rw [e2] at hf'
      obtain rfl := put_exact hs
      rw [e1, List.append_assoc]
      have hk : p1.f0 = false := by simp [Trm.fitsB] at hf'; first | exact hf' | exact hf'.1
      exact h1.put (fun _ => p_not (h2 hk)) (fun e => by exact absurd e (by show ¬ decide ((6 : Int) ≥ 19) = true; decide))
    · skip
      obtain rfl : n = 1 := by have e : Trm.takesN 7 0 = some 1 := (by decide); exact Option.some.inj (hn'.symm.trans e)
      obtain ⟨ts', b, st', sk', p1, x, rfl, rfl, rfl, h1, h2, h3⟩ := h.inv hl
      obtain ⟨e1, e2⟩ := takeS_one st' p1
      rw [e2] at hf'
      obtain rfl := put_exact hs
      rw [e1, List.append_assoc]
      have hk : p1.f0 = false := by simp [Trm.fitsB] at hf'; first | exact hf' | exact hf'.1
      exact h1.put (fun _ => (p_pre (M := ⟨#[88, 32]⟩) (c := 88) (op := 7) rfl (by decide) (by decide) (by decide)) (h2 hk)) (fun e => by exact absurd e (by show ¬ decide ((7 : Int) ≥ 19) = true; decide))
    · skip
      obtain rfl : n = 1 := by have e : Trm.takesN 8 0 = some 1 := (by decide); exact Option.some.inj (hn'.symm.trans e)
      obtain ⟨ts', b, st', sk', p1, x, rfl, rfl, rfl, h1, h2, h3⟩ := h.inv hl
      obtain ⟨e1, e2⟩ := takeS_one st' p1
      rw [e2] at hf'
      obtain rfl := put_exact hs
      rw [e1, List.append_assoc]
      have hk : p1.f0 = false := by simp [Trm.fitsB] at hf'; first | exact hf' | exact hf'.1
      exact h1.put (fun _ => (p_pre (M := ⟨#[78, 32]⟩) (c := 78) (op := 8) rfl (by decide) (by decide) (by decide)) (h2 hk)) (fun e => by exact absurd e (by show ¬ decide ((8 : Int) ≥ 19) = true; decide))
    · skip
      obtain rfl : n = 1 := by have e : Trm.takesN 9 0 = some 1 := (by decide); exact Option.some.inj (hn'.symm.trans e)
      obtain ⟨ts', b, st', sk', p1, x, rfl, rfl, rfl, h1, h2, h3⟩ := h.inv hl
      obtain ⟨e1, e2⟩ := takeS_one st' p1
      rw [e2] at hf'
      obtain rfl := put_exact hs
      rw [e1, List.append_assoc]
      have hk : p1.f0 = false := by simp [Trm.fitsB] at hf'; first | exact hf' | exact hf'.1
      exact h1.put (fun _ => (p_pre (M := ⟨#[70, 32]⟩) (c := 70) (op := 9) rfl (by decide) (by decide) (by decide)) (h2 hk)) (fun e => by exact absurd e (by show ¬ decide ((9 : Int) ≥ 19) = true; decide))
    · skip
      obtain rfl : n = 1 := by have e : Trm.takesN 10 0 = some 1 := (by decide); exact Option.some.inj (hn'.symm.trans e)
      obtain ⟨ts', b, st', sk', p1, x, rfl, rfl, rfl, h1, h2, h3⟩ := h.inv hl
      obtain ⟨e1, e2⟩ := takeS_one st' p1
      rw [e2] at hf'
      obtain rfl := put_exact hs
      rw [e1, List.append_assoc]
      have hk : p1.f0 = false := by simp [Trm.fitsB] at hf'; first | exact hf' | exact hf'.1
      exact h1.put (fun _ => (p_pre (M := ⟨#[71, 32]⟩) (c := 71) (op := 10) rfl (by decide) (by decide) (by decide)) (h2 hk)) (fun e => by exact absurd e (by show ¬ decide ((10 : Int) ≥ 19) = true; decide))
    · skip
      obtain rfl : n = 1 := by have e : Trm.takesN 20 0 = some 1 := (by decide); exact Option.some.inj (hn'.symm.trans e)
      obtain ⟨ts', b, st', sk', p1, x, rfl, rfl, rfl, h1, h2, h3⟩ := h.inv hl
      obtain ⟨e1, e2⟩ := takeS_one st' p1
      rw [e2] at hf'
      obtain rfl := put_exact hs
      rw [e1, List.append_assoc]
      have hk : p1.f0 = false := by simp [Trm.fitsB] at hf'; first | exact hf' | exact hf'.1
      exact h1.put (fun e => by exact absurd e (by show ¬ decide ((20 : Int) ≥ 19) = false; decide)) (fun _ => p_test (h2 hk))
  rw [if_neg c_un] at hs
  by_cases c_b : o = 19
  · rw [if_pos c_b] at hs
    subst c_b
    obtain rfl : n = 1 := by have e : Trm.takesN 19 0 = some 1 := (by decide); exact Option.some.inj (hn'.symm.trans e)
    obtain ⟨ts', b, st', sk', p1, x, rfl, rfl, rfl, h1, h2, h3⟩ := h.inv hl
    obtain ⟨e1, e2⟩ := takeS_one st' p1
    rw [e2] at hf'
    obtain rfl := put_exact hs
    rw [e1, List.append_assoc]
    have hk : p1.f0 = false := by simp [Trm.fitsB] at hf'; first | exact hf' | exact hf'.1
    exact h1.put (fun e => by exact absurd e (by show ¬ decide ((19 : Int) ≥ 19) = false; decide)) (fun _ => p_step (h2 hk))
  rw [if_neg c_b] at hs
  by_cases c_s : o = 23
  · rw [if_pos c_s] at hs
    subst c_s
    obtain rfl : n = 1 := by have e : Trm.takesN 23 0 = some 1 := (by decide); exact Option.some.inj (hn'.symm.trans e)
    obtain ⟨ts', b, st', sk', p1, x, rfl, rfl, rfl, h1, h2, h3⟩ := h.inv hl
    obtain ⟨e1, e2⟩ := takeS_one st' p1
    rw [e2] at hf'
    obtain rfl := put_exact hs
    rw [e1, List.append_assoc]
    have hk : p1.f0 = true := by simp [Trm.fitsB] at hf'; first | exact hf' | exact hf'.1
    exact h1.put (fun e => by exact absurd e (by show ¬ decide ((23 : Int) ≥ 19) = false; decide)) (fun _ => p_star (h3 hk))
  rw [if_neg c_s] at hs
  by_cases c_d : o = 17
  · rw [if_pos c_d] at hs
    subst c_d
    obtain rfl : n = 2 := by have e : Trm.takesN 17 0 = some 2 := (by decide); exact Option.some.inj (hn'.symm.trans e)
    obtain ⟨ts', a, b, st', sk', p1, p2, y, x, rfl, rfl, rfl, h1, h2, h3, h4, h5⟩ := h.two hl
    obtain ⟨e1, e2⟩ := takeS_two st' p1 p2
    rw [e2] at hf'
    obtain rfl := put_exact hs
    rw [e1, List.append_assoc, List.append_assoc, ← List.append_assoc a]
    have hk : p1.f0 = true ∧ p2.f0 = false := by simp [Trm.fitsB] at hf'; exact hf'
    exact h1.put (fun _ => p_dia (h3 hk.1) (h4 hk.2)) (fun e => by exact absurd e (by show ¬ decide ((17 : Int) ≥ 19) = true; decide))
  rw [if_neg c_d] at hs
  by_cases c_e : o = 18
  · rw [if_pos c_e] at hs
    subst c_e
    obtain rfl : n = 2 := by have e : Trm.takesN 18 0 = some 2 := (by decide); exact Option.some.inj (hn'.symm.trans e)
    obtain ⟨ts', a, b, st', sk', p1, p2, y, x, rfl, rfl, rfl, h1, h2, h3, h4, h5⟩ := h.two hl
    obtain ⟨e1, e2⟩ := takeS_two st' p1 p2
    rw [e2] at hf'
    obtain rfl := put_exact hs
    rw [e1, List.append_assoc, List.append_assoc, ← List.append_assoc a]
    have hk : p1.f0 = true ∧ p2.f0 = false := by simp [Trm.fitsB] at hf'; exact hf'
    exact h1.put (fun _ => p_box (h3 hk.1) (h4 hk.2)) (fun e => by exact absurd e (by show ¬ decide ((18 : Int) ≥ 19) = true; decide))
  rw [if_neg c_e] at hs
  by_cases c_bi : binO o = true
  · rw [if_pos c_bi] at hs
    have hor : o = 11 ∨ o = 12 ∨ o = 13 ∨ o = 14 ∨ o = 15 ∨ o = 16 ∨ o = 21 ∨ o = 22 := by unfold binO at c_bi; simp only [Bool.or_eq_true, beq_iff_eq] at c_bi; omega
    clear c_bi
    rcases hor with rfl | rfl | rfl | rfl | rfl | rfl | rfl | rfl
    · skip
      obtain rfl : n = 2 := by have e : Trm.takesN 11 0 = some 2 := (by decide); exact Option.some.inj (hn'.symm.trans e)
      obtain ⟨ts', a, b, st', sk', p1, p2, y, x, rfl, rfl, rfl, h1, h2, h3, h4, h5⟩ := h.two hl
      obtain ⟨e1, e2⟩ := takeS_two st' p1 p2
      rw [e2] at hf'
      obtain rfl := put_exact hs
      rw [e1, List.append_assoc, List.append_assoc, ← List.append_assoc a]
      have hk : p1.f0 = false ∧ p2.f0 = false := by simp [Trm.fitsB] at hf'; exact hf'
      exact h1.put (fun _ => p_and (h2 hk.1) (h4 hk.2)) (fun e => by exact absurd e (by show ¬ decide ((11 : Int) ≥ 19) = true; decide))
    · skip
      obtain rfl : n = 2 := by have e : Trm.takesN 12 0 = some 2 := (by decide); exact Option.some.inj (hn'.symm.trans e)
      obtain ⟨ts', a, b, st', sk', p1, p2, y, x, rfl, rfl, rfl, h1, h2, h3, h4, h5⟩ := h.two hl
      obtain ⟨e1, e2⟩ := takeS_two st' p1 p2
      rw [e2] at hf'
      obtain rfl := put_exact hs
      rw [e1, List.append_assoc, List.append_assoc, ← List.append_assoc a]
      have hk : p1.f0 = false ∧ p2.f0 = false := by simp [Trm.fitsB] at hf'; exact hf'
      exact h1.put (fun _ => p_or (h2 hk.1) (h4 hk.2)) (fun e => by exact absurd e (by show ¬ decide ((12 : Int) ≥ 19) = true; decide))
    · skip
      obtain rfl : n = 2 := by have e : Trm.takesN 13 0 = some 2 := (by decide); exact Option.some.inj (hn'.symm.trans e)
      obtain ⟨ts', a, b, st', sk', p1, p2, y, x, rfl, rfl, rfl, h1, h2, h3, h4, h5⟩ := h.two hl
      obtain ⟨e1, e2⟩ := takeS_two st' p1 p2
      rw [e2] at hf'
      obtain rfl := put_exact hs
      rw [e1, List.append_assoc, List.append_assoc, ← List.append_assoc a]
      have hk : p1.f0 = false ∧ p2.f0 = false := by simp [Trm.fitsB] at hf'; exact hf'
      exact h1.put (fun _ => p_imp (h2 hk.1) (h4 hk.2)) (fun e => by exact absurd e (by show ¬ decide ((13 : Int) ≥ 19) = true; decide))
    · skip
      obtain rfl : n = 2 := by have e : Trm.takesN 14 0 = some 2 := (by decide); exact Option.some.inj (hn'.symm.trans e)
      obtain ⟨ts', a, b, st', sk', p1, p2, y, x, rfl, rfl, rfl, h1, h2, h3, h4, h5⟩ := h.two hl
      obtain ⟨e1, e2⟩ := takeS_two st' p1 p2
      rw [e2] at hf'
      obtain rfl := put_exact hs
      rw [e1, List.append_assoc, List.append_assoc, ← List.append_assoc a]
      have hk : p1.f0 = false ∧ p2.f0 = false := by simp [Trm.fitsB] at hf'; exact hf'
      exact h1.put (fun _ => p_iff (h2 hk.1) (h4 hk.2)) (fun e => by exact absurd e (by show ¬ decide ((14 : Int) ≥ 19) = true; decide))
    · skip
      obtain rfl : n = 2 := by have e : Trm.takesN 15 0 = some 2 := (by decide); exact Option.some.inj (hn'.symm.trans e)
      obtain ⟨ts', a, b, st', sk', p1, p2, y, x, rfl, rfl, rfl, h1, h2, h3, h4, h5⟩ := h.two hl
      obtain ⟨e1, e2⟩ := takeS_two st' p1 p2
      rw [e2] at hf'
      obtain rfl := put_exact hs
      rw [e1, List.append_assoc, List.append_assoc, ← List.append_assoc a]
      have hk : p1.f0 = false ∧ p2.f0 = false := by simp [Trm.fitsB] at hf'; exact hf'
      exact h1.put (fun _ => p_until (h2 hk.1) (h4 hk.2)) (fun e => by exact absurd e (by show ¬ decide ((15 : Int) ≥ 19) = true; decide))
    · skip
      obtain rfl : n = 2 := by have e : Trm.takesN 16 0 = some 2 := (by decide); exact Option.some.inj (hn'.symm.trans e)
      obtain ⟨ts', a, b, st', sk', p1, p2, y, x, rfl, rfl, rfl, h1, h2, h3, h4, h5⟩ := h.two hl
      obtain ⟨e1, e2⟩ := takeS_two st' p1 p2
      rw [e2] at hf'
      obtain rfl := put_exact hs
      rw [e1, List.append_assoc, List.append_assoc, ← List.append_assoc a]
      have hk : p1.f0 = false ∧ p2.f0 = false := by simp [Trm.fitsB] at hf'; exact hf'
      exact h1.put (fun _ => p_rel (h2 hk.1) (h4 hk.2)) (fun e => by exact absurd e (by show ¬ decide ((16 : Int) ≥ 19) = true; decide))
    · skip
      obtain rfl : n = 2 := by have e : Trm.takesN 21 0 = some 2 := (by decide); exact Option.some.inj (hn'.symm.trans e)
      obtain ⟨ts', a, b, st', sk', p1, p2, y, x, rfl, rfl, rfl, h1, h2, h3, h4, h5⟩ := h.two hl
      obtain ⟨e1, e2⟩ := takeS_two st' p1 p2
      rw [e2] at hf'
      obtain rfl := put_exact hs
      rw [e1, List.append_assoc, List.append_assoc, ← List.append_assoc a]
      have hk : p1.f0 = true ∧ p2.f0 = true := by simp [Trm.fitsB] at hf'; exact hf'
      exact h1.put (fun e => by exact absurd e (by show ¬ decide ((21 : Int) ≥ 19) = false; decide)) (fun _ => p_plus (h3 hk.1) (h5 hk.2))
    · skip
      obtain rfl : n = 2 := by have e : Trm.takesN 22 0 = some 2 := (by decide); exact Option.some.inj (hn'.symm.trans e)
      obtain ⟨ts', a, b, st', sk', p1, p2, y, x, rfl, rfl, rfl, h1, h2, h3, h4, h5⟩ := h.two hl
      obtain ⟨e1, e2⟩ := takeS_two st' p1 p2
      rw [e2] at hf'
      obtain rfl := put_exact hs
      rw [e1, List.append_assoc, List.append_assoc, ← List.append_assoc a]
      have hk : p1.f0 = true ∧ p2.f0 = true := by simp [Trm.fitsB] at hf'; exact hf'
      exact h1.put (fun e => by exact absurd e (by show ¬ decide ((22 : Int) ≥ 19) = false; decide)) (fun _ => p_seq (h3 hk.1) (h5 hk.2))
  rw [if_neg c_bi] at hs
  cases hs
end Go.Proofs.YtaogoabnidbbpaaDoor.PText
/-! TextBack -/
namespace Go.Proofs.YtaogoabnidbbpaaDoor.PText
open Go.RowKit Go.Proofs.YtaogoabnidbbpaaDoorW.PrintWords Go.Proofs.YtaogoabnidbbpaaDoorW.PrintLast Go.Proofs.YtaogoabnidbbpaaDoorW.PrintMore
set_option linter.unusedVariables false
theorem step_long {names : List ByteArray} {st : List S117} {t : Tk} {q : List S117 × Bool} (h : stepS names st true t = some q) : q.2 = true := by
  have fin : ∀ {s : List S117} {a : ByteArray} {k : Int}, some (putS s true a k) = some q → q.2 = true := by
    intro s a k h3
    cases h3
    show (if a.size > 4096 then true else true) = true
    split <;> rfl
  unfold stepS at h
  repeat' split at h
  all_goals first | exact fin h | cases h
theorem run_long {names : List ByteArray} (l : List Tk) : ∀ (st : List S117) (s : List S117), runS names st true l ≠ some (s, false) := by
  induction l with
  | nil => intro st s h; rw [runS] at h; cases h
  | cons t l ih =>
    intro st s h
    rw [runS] at h
    cases hs : stepS names st true t with
    | none => rw [hs] at h; cases h
    | some q =>
      rw [hs] at h
      have := step_long hs
      obtain ⟨q1, q2⟩ := q
      obtain rfl : q2 = true := this
      exact ih _ _ h
theorem run_small {names : List ByteArray} (l : List Tk) : ∀ (st : List S117) (lg : Bool) (q : List S117 × Bool), SmallS st → runS names st lg l = some q → SmallS q.1 := by
  induction l with
  | nil => intro st lg q h hr; rw [runS] at hr; cases hr; exact h
  | cons t l ih =>
    intro st lg q h hr
    rw [runS] at hr
    cases hs : stepS names st lg t with
    | none => rw [hs] at hr; cases hr
    | some z => rw [hs] at hr; exact ih _ _ _ (step_fits hs h).1 hr
theorem stk_run {names : List ByteArray} (hc : chk names = 0) (l : List Tk) : ∀ (i : Nat) (all st : List Trm.Pt) (r : List Trm.Pt × List Trm.Pt) (ts : List Tk) (sk : List S117), Stk names ts st sk → Trm.run i all st l = some r →
    (∀ t ∈ l, t.f0 ≠ 4 ∧ t.f0 ≠ 5 ∧ 0 ≤ t.f1 ∧ (t.f0 = 2 → t.f1 < names.length)) → ∀ sk1, runS names sk false l = some (sk1, false) → Stk names (ts ++ l) r.2 sk1 := by
  induction l with
  | nil =>
    intro i all st r ts sk h hr _ sk1 hs
    rw [Trm.run] at hr
    rw [runS] at hs
    cases hr
    cases hs
    rw [List.append_nil]
    exact h
  | cons t l ih =>
    intro i all st r ts sk h hr hok sk1 hs
    rw [Trm.run] at hr
    rw [runS] at hs
    cases hq : Trm.step i st t with
    | none => rw [hq] at hr; cases hr
    | some q =>
      rw [hq] at hr
      cases hs1 : stepS names sk false t with
      | none => rw [hs1] at hs; cases hs
      | some z =>
        rw [hs1] at hs
        obtain ⟨z1, z2⟩ := z
        cases z2 with
        | true => exact absurd hs (run_long l z1 sk1)
        | false =>
          obtain ⟨h4, h5, h0, h2⟩ := hok t List.mem_cons_self
          have h3 := stk_step hc h hq h4 h5 h0 h2 hs1
          have := ih _ _ _ _ _ _ h3 hr (fun u hu => hok u (List.mem_cons_of_mem _ hu)) sk1 hs
          rwa [List.append_assoc] at this
/-- What is shown of tokens that stand is read as these tokens. -/
theorem back_reads {names : List ByteArray} (hc : chk names = 0) {l : List Tk} {path : Bool} (hk : chkT l path = 0) {s : ByteArray} (h : show_text.f names l = some (s, 0)) : readL names s.data.toList path = (l, 0, 0) := by
  unfold show_text.f at h
  by_cases c : l.length ≤ 900 ∧ l.all okT = true
  · rw [if_pos c] at h
    by_cases cm : l.any moreT = true
    · rw [if_pos cm] at h; cases h
    · rw [if_neg cm] at h
      by_cases co : l.any (outT names.length) = true
      · rw [if_pos co] at h; cases h
      · rw [if_neg co] at h
        have hmore := any_no cm
        have hout := any_no co
        have hok := List.all_eq_true.1 c.2
        cases hr : runS names [] false l with
        | none => rw [hr] at h; cases h
        | some q =>
          obtain ⟨st, lg⟩ := q
          rw [hr] at h
          have hsm := run_small l [] false (st, lg) (fun p hp => by cases hp) hr
          cases lg with
          | true => cases h
          | false =>
            obtain ⟨hl5, all, p, hrun, hp, hd⟩ := check_inv hk
            have hall : ∀ t ∈ l, t.f0 ≠ 4 ∧ t.f0 ≠ 5 ∧ 0 ≤ t.f1 ∧ (t.f0 = 2 → t.f1 < names.length) := by
              intro t ht
              obtain ⟨d4, d5⟩ := moreT_no (hmore t ht)
              refine ⟨beq_eq_false_iff_ne.1 d4, beq_eq_false_iff_ne.1 d5, (okT_p (hok t ht)).1, fun e => ?_⟩
              have := hout t ht
              unfold outT at this
              rw [decide_eq_true e, Bool.true_and, decide_eq_false_iff_not] at this
              omega
            have hstk := stk_run hc l 0 [] [] _ [] [] .nil hrun hall st hr
            rw [List.nil_append] at hstk
            obtain ⟨ts', b, st', sk', p', x, e1, e2, e3, h1, h2, h3⟩ := hstk.inv (by simp)
            have e4 : st' = [] ∧ p' = p := by
              have := congrArg List.length e2
              simp at this
              subst this
              simpa using e2.symm
            obtain ⟨rfl, rfl⟩ := e4
            have e5 : ts' = [] := by
              obtain ⟨z, hz⟩ : ∃ z : List Trm.Pt, z = [] := ⟨_, rfl⟩
              rw [← hz] at h1
              cases h1 with
              | nil => rfl
              | cons _ _ _ => exact absurd hz (by simp)
            subst e5
            rw [List.nil_append] at e1
            subst e1
            subst e3
            have hsx : x.f0 = s := by cases h; rfl
            have hsz : s.data.toList.length ≤ 4096 := by rw [size_eq, ← hsx]; exact hsm x List.mem_cons_self
            cases path with
            | false =>
              obtain ⟨ws, hlex, hg, hn⟩ := h2 hp
              rw [hsx] at hlex
              have hr := lv1_end (hg 1 (by decide) (by decide) hn) [] ⟨⟨⟨⟨⟨by decide, by decide⟩, by decide⟩, by decide⟩, by decide⟩, by decide⟩
              rw [List.append_nil] at hr
              have := readL_of (path := false) hc hsz hlex hr
              rw [if_pos hk] at this
              exact this
            | true =>
              obtain ⟨ws, hlex, hg, hn⟩ := h3 hp
              rw [hsx] at hlex
              have hr := lp1_end (hg 1 (by decide) (by decide) hn) [] ⟨⟨by decide, by decide⟩, by decide⟩
              rw [List.append_nil] at hr
              have := readL_of (path := true) hc hsz hlex hr
              rw [if_pos hk] at this
              exact this
  · rw [if_neg c] at h; cases h
end Go.Proofs.YtaogoabnidbbpaaDoor.PText
/-! TextShows -/
namespace Go.Proofs.YtaogoabnidbbpaaDoor.PText
open Go.RowKit Go.Proofs.YtaogoabnidbbpaaDoorW.PrintWords Go.Proofs.YtaogoabnidbbpaaDoorW.PrintLast Go.Proofs.YtaogoabnidbbpaaDoorW.PrintMore
set_option linter.unusedVariables false
theorem step_goes {names : List ByteArray} {st : List Trm.Pt} {sk : List S117} {lg : Bool} {i : Nat} {t : Tk} {q : List Trm.Pt × Trm.Pt} (hl : sk.length = st.length) (hq : Trm.step i st t = some q) (h4 : t.f0 ≠ 4) (h5 : t.f0 ≠ 5) :
    ∃ z, stepS names sk lg t = some z ∧ z.1.length = (q.1 ++ [q.2]).length := by
  obtain ⟨o, p⟩ := t
  obtain ⟨n, hn, hn1, -, rfl⟩ := Trm.step_some hq
  have hn' : Trm.takesN o p = some n := hn
  have h4' : o ≠ 4 := h4
  have h5' : o ≠ 5 := h5
  clear hn hq h4 h5
  have fin : ∀ (s : List S117) (a : ByteArray) (k : Int), s.length = st.length - n → ∃ z, some (putS s lg a k) = some z ∧ z.1.length = (st.take (st.length - n) ++ [Trm.mk o i (st.drop (st.length - n))]).length := by
    intro s a k hs
    refine ⟨_, rfl, ?_⟩
    rw [putS_len, List.length_append, List.length_take, hs]
    simp
  unfold stepS
  unfold Trm.takesN at hn'
  split at hn'
  · cases hn'
  split at hn'
  · obtain rfl := Option.some.inj hn'
    rename_i ho
    have : o = 0 ∨ o = 1 ∨ o = 2 ∨ o = 3 := by omega
    rcases this with rfl | rfl | rfl | rfl <;> exact fin sk _ _ (by omega)
  split at hn'
  · obtain rfl := Option.some.inj hn'
    rename_i ho
    cases sk with
    | nil => rw [List.length_nil] at hl; omega
    | cons x s =>
      rw [List.length_cons] at hl
      rcases ho with rfl | rfl | rfl | rfl | rfl | rfl | rfl | rfl <;> exact fin s _ _ (by omega)
  split at hn'
  · obtain rfl := Option.some.inj hn'
    rename_i ho
    match sk, hl with
    | [], hl => rw [List.length_nil] at hl; omega
    | [_], hl => rw [List.length_cons, List.length_nil] at hl; omega
    | x :: y :: s, hl =>
      rw [List.length_cons, List.length_cons] at hl
      rcases ho with rfl | rfl | rfl | rfl | rfl | rfl | rfl | rfl | rfl | rfl <;> exact fin s _ _ (by omega)
  · cases hn'
theorem run_goes {names : List ByteArray} (l : List Tk) : ∀ (i : Nat) (all st : List Trm.Pt) (r : List Trm.Pt × List Trm.Pt) (sk : List S117) (lg : Bool), sk.length = st.length → Trm.run i all st l = some r → (∀ t ∈ l, t.f0 ≠ 4 ∧ t.f0 ≠ 5) → ∃ z, runS names sk lg l = some z ∧ z.1.length = r.2.length := by
  induction l with
  | nil => intro i all st r sk lg h hr _; rw [Trm.run] at hr; cases hr; exact ⟨_, rfl, h⟩
  | cons t l ih =>
    intro i all st r sk lg h hr hok
    rw [Trm.run] at hr
    cases hq : Trm.step i st t with
    | none => rw [hq] at hr; cases hr
    | some q =>
      rw [hq] at hr
      obtain ⟨z, hz, hzl⟩ := step_goes (names := names) (lg := lg) h hq (hok t List.mem_cons_self).1 (hok t List.mem_cons_self).2
      obtain ⟨y, hy, hyl⟩ := ih _ _ _ _ z.1 z.2 hzl hr (fun u hu => hok u (List.mem_cons_of_mem _ hu))
      exact ⟨y, by rw [runS, hz]; exact hy, hyl⟩
/-- Of tokens that stand something is shown. -/
theorem show_some (names : List ByteArray) {l : List Tk} {path : Bool} (hk : chkT l path = 0) (hok : ∀ t ∈ l, okT t = true) : ∃ s e, show_text.f names l = some (s, e) := by
  obtain ⟨hl5, all, p, hrun, hp, hd⟩ := check_inv hk
  unfold show_text.f
  rw [if_pos ⟨by omega, List.all_eq_true.2 hok⟩]
  by_cases cm : l.any moreT = true
  · rw [if_pos cm]; exact ⟨_, _, rfl⟩
  · rw [if_neg cm]
    by_cases co : l.any (outT names.length) = true
    · rw [if_pos co]; exact ⟨_, _, rfl⟩
    · rw [if_neg co]
      obtain ⟨z, hz, hzl⟩ := run_goes (names := names) l 0 [] [] _ [] false rfl hrun (fun t ht => by
        obtain ⟨d4, d5⟩ := moreT_no (any_no cm t ht)
        exact ⟨beq_eq_false_iff_ne.1 d4, beq_eq_false_iff_ne.1 d5⟩)
      rw [hz]
      obtain ⟨z1, z2⟩ := z
      cases z2 with
      | true => exact ⟨_, _, rfl⟩
      | false =>
        cases z1 with
        | nil => cases hzl
        | cons x s => exact ⟨_, _, rfl⟩
end Go.Proofs.YtaogoabnidbbpaaDoor.PText
