/- Texts of this work merged into one file, what the law does not need left out: RefTold1; RefTold; RefToldF; PRef06. Conditions stand in each law. -/
import Derived.Test.YtaogoabnidbbpaaGreatDoorSt31
import Derived.Test.YtaogoabnidbbpaaGreatDoorSt36
namespace Go.Proofs.YtaogoabnidbbpaaGreatDoor.PText
open Go.RowKit Go.Proofs.YtaogoabnidbbpaaGreatDoorW.PrintWords Go.Proofs.YtaogoabnidbbpaaGreatDoorW.PrintLast Go.Proofs.YtaogoabnidbbpaaGreatDoorW.PrintMore
set_option linter.unusedVariables false
set_option linter.unusedSimpArgs false
theorem look_size (o : Int) : (lookAt o).text.size ≤ 5 := by
 unfold lookAt
 rw [List.getD_eq_getElem?_getD]
 cases h : lookL[o.toNat]? with
 | none => exact Nat.zero_le _
 | some x =>
  have hm := List.mem_of_getElem? h
  exact (by decide : ∀ x ∈ lookL, x.text.size ≤ 5) x hm
theorem totR_nil : totR [] = 0 := rfl
theorem totR_cons (x : Rt) (l : List Rt) : totR (x :: l) = x.f0.size + totR l := by unfold totR; rw [List.map_cons, List.sum_cons]
theorem totR_mem {x : Rt} {l : List Rt} (h : x ∈ l) : x.f0.size ≤ totR l := by
 induction l with
 | nil => cases h
 | cons y l ih =>
  rw [totR_cons]
  rcases List.mem_cons.1 h with rfl | h
  ·omega
  ·have := ih h; omega
theorem textR_size {names : List ByteArray} {t : Tk} {a : List Rt} {s : ByteArray} (hn : ∀ x ∈ names, x.size ≤ 20) (h : textR names t a = some s) : s.size ≤ totR a + 30 := by
 have hl := look_size t.f0
 have h1 : ∀ b : UInt8, (⟨#[b]⟩ : ByteArray).size = 1 := fun b => rfl
 have wz : ∀ (x : Rt) (n : Int), (withinR x n).size ≤ x.f0.size + 2 := fun x n => (withinR_size x n).2
 have hg : ∀ k, (names.getD k ⟨#[]⟩).size ≤ 20 := by
  intro k
  rw [List.getD_eq_getElem?_getD]
  cases hk : names[k]? with
  | none => exact Nat.zero_le _
  | some x => exact hn x (List.mem_of_getElem? hk)
 have fin : ∀ {b : ByteArray}, b.size ≤ totR a + 30 → some b = some s → s.size ≤ totR a + 30 := by
  intro b hb e
  cases e
  exact hb
 have h0 := hg t.f1.toNat
 rcases a with _ | ⟨x, _ | ⟨y, _ | ⟨z, r⟩⟩⟩
 ·unfold textR at h
  repeat' split at h
  all_goals first | (cases h; done) | contradiction | (rename_i hq; cases hq; done) | (refine fin ?_ h; omega)
 ·have w1 := wz x (lookAt t.f0).left
  unfold textR at h
  simp only [totR_cons, totR_nil] at fin ⊢
  repeat' split at h
  all_goals (try (rename_i hq; cases hq))
  all_goals first | (refine fin ?_ h; simp only [ByteArray.size_append, h1]; omega) | (refine fin ?_ h; omega) | cases h
  all_goals omega
 ·have w1 := wz x (lookAt t.f0).left
  have w2 := wz y (lookAt t.f0).right
  unfold textR at h
  simp only [totR_cons, totR_nil] at fin ⊢
  repeat' split at h
  all_goals (try (rename_i hq; cases hq))
  all_goals first | (refine fin ?_ h; simp only [ByteArray.size_append, h1]; omega) | (refine fin ?_ h; omega) | cases h
  all_goals omega
 ·unfold textR at h
  repeat' split at h
  all_goals (try (rename_i hq; cases hq))
  all_goals first | (refine fin ?_ h; omega) | cases h
theorem stepR_inv {names : List ByteArray} {st st1 : List Rt} {t : Tk} (h : stepR names st t = some st1) : ∃ n s, Trm.takesN t.f0 t.f1 = some n ∧ n ≤ st.length ∧ textR names t (st.drop (st.length - n)) = some s ∧ st1 = st.take (st.length - n) ++ [⟨s, strongR t.f0⟩] := by
 unfold stepR at h
 cases hn : Trm.takesN t.f0 t.f1 with
 | none => rw [hn] at h; cases h
 | some n =>
  rw [hn] at h
  simp only at h
  split at h
  ·rename_i hl
   obtain ⟨s, hs, rfl⟩ := Option.map_eq_some_iff.1 h
   exact ⟨n, s, rfl, hl, hs, rfl⟩
  ·cases h
theorem totR_step {st : List Rt} {m : Nat} {s : ByteArray} {k : Int} (h : s.size ≤ totR (st.drop m) + 30) : totR (st.take m ++ [⟨s, k⟩]) ≤ totR st + 30 := by
 have e : totR st = totR (st.take m) + totR (st.drop m) := by rw [← totR_app, List.take_append_drop]
 rw [totR_app, totR_one]
 show _ + s.size ≤ _
 omega
theorem cut_full {P : Program} (t e : TypeId) (kh : IntKind) {i : TypeInfo} (ht : P.underlying t = some (.slice e)) (hi : P.info? e = some i) (A : Option Addr) (n c m : Nat) (hm : m ≤ c) :
  ∀ W : World, (Instr.slice t (.slice A n c) none (some (.int kh (m : Int))) (some (.int kh (m : Int)))).run P W = .ok (.slice A m m) W := by
 intro W
 have hel : P.elem t = e := by simp [Program.elem, ht]
 have hu : P.underlying t = some (.slice (P.elem t)) := by rw [hel]; exact ht
 have ha : (A.map fun x => x.add 0) = A := by cases A <;> simp [Addr.add]
 rw [run_slice_hm W t A n c hu kh kh m m (by omega) (by omega) (by omega), hel]
 simp [sizeOf, typeInfo, hi, sliced, Result.andThen, ha]
end Go.Proofs.YtaogoabnidbbpaaGreatDoor.PText
namespace Go.Proofs.YtaogoabnidbbpaaGreatDoor.PText
open Go.RowKit Go.Proofs.YtaogoabnidbbpaaGreatDoorW.PrintWords Go.Proofs.YtaogoabnidbbpaaGreatDoorW.PrintLast Go.Proofs.YtaogoabnidbbpaaGreatDoorW.PrintMore Go.Proofs.YtaogoabnidbbpaaGreatDoorW.Aid
set_option linter.unusedVariables false
set_option linter.unusedSimpArgs false
abbrev RT (w : World) (b : Nat) (v : Value) (l : List Rt) : Prop := Kd.R k72 72 w b (fun _ => True) v l
theorem kept_block {X w3 : World} {g : Nat} {o : Obj} (hq : Below X.heap.size X w3) (h : X.heap[g]? = some o) : w3.heap[g]? = some o := (hq.block g (blk_lt h)).trans h
def ToldPost (w : World) (s : ByteArray) (er : Int) (e : Ending) (w' : World) : Prop := e = .returned (.tuple #[.string s, .int .i64 er]) ∧ Below w.heap.size w w'
def TdJ (w : World) (names : List ByteArray) (l : List Tk) (fin : List Rt) (kq : Nat) (v8 v9 : Value) (w' : World) : Prop := ∃ (i : Nat) (st : List Rt), v9 = .int .i64 (i : Int) ∧ i + kq = l.length ∧ RT w' w.heap.size v8 st ∧ Below w.heap.size w w' ∧ runR names st (l.drop i) = some fin ∧ st.length ≤ i ∧ totR st ≤ 30 * i
set_option maxHeartbeats 16000000 in
set_option maxRecDepth 100000 in
theorem told_calls (A0 : Option Addr) (c0 : Nat) (names : List ByteArray) (A1 : Option Addr) (c1 : Nat) (l : List Tk) (s : ByteArray) (er : Int) (w : World) (hn : Kd.C Kd.string w A0 names.length names) (hr : Kd.C k41 w A1 l.length l) (hl : l.length ≤ 512) (hok : ∀ t ∈ l, okT t = true) (hnm : ∀ x ∈ names, x.size ≤ 20) (h : toldR names l = some (s, er)) :
  Calls Tryz.prog 18 #[.slice A0 names.length c0, .slice A1 l.length c1] w (ToldPost w s er) := by
 have HN := Aside0.mk hn
 have HR := Aside0.mk hr
 have HL := Aside0.mk hl
 have HK := Aside0.mk hok
 have HNM := Aside0.mk hnm
 have H := Aside0.mk h
 have HB := Aside0.mk (Below.refl w.heap.size w)
 clear hn hr hl hok hnm h
 go_enter Tryz.func18, Tryz.ntmps18
 go_wp2
 go_loopg [6] l.length (fun kq v6 w' => ∃ (i : Nat), v6 = .int .i64 (i : Int) ∧ Aside0 (i + kq = l.length) ∧ Aside0 (l.any moreT = (l.drop i).any moreT) ∧ Aside0 (Below w.heap.size w w'))
 case atStart => exact ⟨0, rfl, ⟨by omega⟩, ⟨rfl⟩, HB⟩
 case round =>
  clear HB
  obtain ⟨i, rfl, hi, hq, HB⟩ := hrel
  have hq0 := hq.out
  clear hq
  cases gk with
  | succ k1 =>
   have hil : i < l.length := by have := hi.out; omega
   obtain ⟨ad, ead, y0, y1⟩ := tok_at HR.out i hil rfl
   subst ead
   replace y0 := below_cell3 y0 HB.out
   replace y1 := below_cell3 y1 HB.out
   rw [List.drop_eq_getElem_cons hil, List.any_cons] at hq0
   obtain ⟨⟨o, p⟩, hx⟩ : ∃ x : Tk, x = l[i] := ⟨_, rfl⟩
   rw [← hx] at y0 y1 hq0
   have cin : decide (i < l.length) = true := decide_eq_true hil
   have p1 := eq_true (show (0 : Int) ≤ (i : Int) by omega)
   have p2 := eq_true hil
   have hw : Aside0 (wrap64 ((i : Int) + 1) = ((i + 1 : Nat) : Int)) := ⟨by have := HL.out; unfold wrap64; omega⟩
   have hi1 : Aside0 (i + 1 + k1 = l.length) := ⟨by have := hi.out; omega⟩
   clear hx hi hil
   by_cases c45 : o = 4 ∨ o = 5
   ·have hm : moreT (⟨o, p⟩ : Tk) = true := by unfold moreT; rcases c45 with rfl | rfl <;> rfl
    obtain ⟨rfl, rfl⟩ : s = ⟨#[]⟩ ∧ er = 160 := by
     have h := H.out
     unfold toldR at h
     rw [if_pos (by rw [hq0, hm]; rfl)] at h
     cases h
     exact ⟨rfl, rfl⟩
    clear hq0 hm
    rcases c45 with rfl | rfl
    all_goals
     go_wp2
     go_ret2
     exact ⟨rfl, by repeat (first | exact HB.out | apply below_alloc | apply pw_below_drewN | apply below_drew1)⟩
   ·have hq1 : Aside0 (l.any moreT = (l.drop (i + 1)).any moreT) := ⟨by
     have e : moreT (⟨o, p⟩ : Tk) = false := by unfold moreT; simp only [decide_eq_false (show ¬ o = 4 by omega), decide_eq_false (show ¬ o = 5 by omega)]; rfl
     rw [hq0, e, Bool.false_or]⟩
    have d4 : (o == 4) = false := beq_eq_false_iff_ne.2 (by omega)
    have d5 : (o == 5) = false := beq_eq_false_iff_ne.2 (by omega)
    clear hq0 c45
    go_wp2
    go_roundg k1
    case measure => exact Nat.lt_succ_self _
    case rel => exact ⟨i + 1, by first | rfl | (show Value.int .i64 (wrap64 _) = _; rw [hw.out]), hi1, hq1, ⟨by repeat (first | exact HB.out | apply below_alloc | apply pw_below_drewN | apply below_drew1)⟩⟩
  | zero =>
   have hil : i = l.length := by have := hi.out; omega
   subst hil
   rw [List.drop_length, List.any_nil] at hq0
   have HM := Aside0.mk hq0
   have cin : decide (l.length < l.length) = false := decide_eq_false (by omega)
   clear hi hq0
   go_wp2
   clear cin
   go_loopg [7] l.length (fun kq v7 w' => ∃ (i : Nat), v7 = .int .i64 (i : Int) ∧ Aside0 (i + kq = l.length) ∧ Aside0 (l.any (outT names.length) = (l.drop i).any (outT names.length)) ∧ Aside0 (Below w.heap.size w w'))
   case atStart => exact ⟨0, rfl, ⟨by omega⟩, ⟨rfl⟩, HB⟩
   case round =>
    clear HB
    obtain ⟨i, rfl, hi, hq, HB⟩ := hrel
    have hq0 := hq.out
    clear hq
    cases gk with
    | succ k1 =>
     have hil : i < l.length := by have := hi.out; omega
     obtain ⟨ad, ead, y0, y1⟩ := tok_at HR.out i hil rfl
     subst ead
     replace y0 := below_cell3 y0 HB.out
     replace y1 := below_cell3 y1 HB.out
     have hp256 := okT_p (HK.out _ (List.getElem_mem hil))
     rw [List.drop_eq_getElem_cons hil, List.any_cons] at hq0
     obtain ⟨⟨o, p⟩, hx⟩ : ∃ x : Tk, x = l[i] := ⟨_, rfl⟩
     rw [← hx] at y0 y1 hq0 hp256
     have hp2 : 0 ≤ p ∧ p < 256 := hp256
     have cin : decide (i < l.length) = true := decide_eq_true hil
     have p1 := eq_true (show (0 : Int) ≤ (i : Int) by omega)
     have p2 := eq_true hil
     have hw : Aside0 (wrap64 ((i : Int) + 1) = ((i + 1 : Nat) : Int)) := ⟨by have := HL.out; unfold wrap64; omega⟩
     have hi1 : Aside0 (i + 1 + k1 = l.length) := ⟨by have := hi.out; omega⟩
     have wp : IntKind.i64.wrap p = p := by rw [i64_w]; unfold wrap64; omega
     clear hx hi hil hp256 hp2
     by_cases c2 : o = 2
     ·subst c2
      by_cases cp : (names.length : Int) ≤ p
      ·have hm : outT names.length (⟨2, p⟩ : Tk) = true := by unfold outT; simp only [decide_eq_true cp]; rfl
       obtain ⟨rfl, rfl⟩ : s = ⟨#[]⟩ ∧ er = 2 := by
        have h := H.out
        unfold toldR at h
        rw [if_neg (by rw [HM.out]; decide), if_pos (by rw [hq0, hm]; rfl)] at h
        cases h
        exact ⟨rfl, rfl⟩
       have d1 : decide ((names.length : Int) ≤ p) = true := decide_eq_true cp
       clear hq0 hm cp
       go_wp2
       go_ret2
       exact ⟨rfl, by repeat (first | exact HB.out | apply below_alloc | apply pw_below_drewN | apply below_drew1)⟩
      ·have hq1 : Aside0 (l.any (outT names.length) = (l.drop (i + 1)).any (outT names.length)) := ⟨by
        have e : outT names.length (⟨2, p⟩ : Tk) = false := by unfold outT; simp only [decide_eq_false cp, Bool.and_false]
        rw [hq0, e, Bool.false_or]⟩
       have d1 : decide ((names.length : Int) ≤ p) = false := decide_eq_false cp
       clear hq0 cp
       go_wp2
       go_roundg k1
       case measure => exact Nat.lt_succ_self _
       case rel => exact ⟨i + 1, by first | rfl | (show Value.int .i64 (wrap64 _) = _; rw [hw.out]), hi1, hq1, ⟨by repeat (first | exact HB.out | apply below_alloc | apply pw_below_drewN | apply below_drew1)⟩⟩
     ·have hq1 : Aside0 (l.any (outT names.length) = (l.drop (i + 1)).any (outT names.length)) := ⟨by
       have e : outT names.length (⟨o, p⟩ : Tk) = false := by unfold outT; simp only [decide_eq_false c2, Bool.false_and]
       rw [hq0, e, Bool.false_or]⟩
      have d2 : (o == 2) = false := beq_eq_false_iff_ne.2 c2
      clear hq0 c2
      go_wp2
      go_roundg k1
      case measure => exact Nat.lt_succ_self _
      case rel => exact ⟨i + 1, by first | rfl | (show Value.int .i64 (wrap64 _) = _; rw [hw.out]), hi1, hq1, ⟨by repeat (first | exact HB.out | apply below_alloc | apply pw_below_drewN | apply below_drew1)⟩⟩
    | zero =>
     have hil : i = l.length := by have := hi.out; omega
     subst hil
     rw [List.drop_length, List.any_nil] at hq0
     have HO := Aside0.mk hq0
     obtain ⟨x0, xs, hfin, hse⟩ : ∃ x xs, runR names [] l = some (x :: xs) ∧ (s, er) = if x.f0.size > 4096 then (⟨#[]⟩, 3) else (x.f0, 0) := by
      have h := H.out
      unfold toldR at h
      rw [if_neg (by rw [HM.out]; decide), if_neg (by rw [hq0]; decide)] at h
      split at h
      ·rename_i x xs hf
       exact ⟨x, xs, hf, (Option.some.inj h).symm⟩
      ·cases h
     have HSE := Aside0.mk hse
     have HFIN := Aside0.mk hfin
     have cin : decide (l.length < l.length) = false := decide_eq_false (by omega)
     clear hi hq0 hse hfin
     go_wp2
     clear cin
     go_loopg [8, 9] l.length (fun kq v8 v9 w' => ∃ (vs vi : Value) (wq : World), vs = v8 ∧ vi = v9 ∧ wq = w' ∧ Aside0 (TdJ w names l (x0 :: xs) kq vs vi wq))
     case atStart => exact ⟨_, _, _, rfl, rfl, rfl, ⟨0, [], rfl, by omega, Kd.R_nil _ _ _ _ _, HB.out, HFIN.out, Nat.le_refl _, Nat.le_refl _⟩⟩
     case round =>
      clear HB
      obtain ⟨vs, vi, wq, h8, h9, hwq, hrel⟩ := hrel
      subst h8
      subst hwq
      obtain ⟨i, st, hv, hi, R8, hb, hrun, hst, htot⟩ := hrel.out
      subst hv
      subst h9
      obtain ⟨A8, c8, rfl⟩ := Kd.R_slice R8
      have R8 := Aside0.mk R8
      have HB := Aside0.mk hb
      clear hrel hb
      cases gk with
      | zero =>
       have hil : i = l.length := by omega
       subst hil
       rw [List.drop_length, runR] at hrun
       obtain rfl : st = x0 :: xs := Option.some.inj hrun
       obtain ⟨ad, ead, y0, y1⟩ := rt_at (Kd.R_reads' R8.out).2.2 0 (by simp)
       subst ead
       rw [show 0 * 2 = 0 from rfl, Addr.add_zero'] at y0
       replace y0 : wq.cell? ad = some (.string x0.f0) := y0
       obtain ⟨n8, hn8⟩ : ∃ n8, n8 = (x0 :: xs).length := ⟨_, rfl⟩
       rw [← hn8]
       have p1 := eq_true (show (0 : Int) < (n8 : Int) by rw [hn8]; simp)
       have p2 := eq_true (show 0 < n8 by rw [hn8]; simp)
       have cin : decide (l.length < l.length) = false := decide_eq_false (by omega)
       have cin2 : decide ((l.length : Int) < (l.length : Int)) = false := decide_eq_false (by omega)
       clear hi hrun hst htot y1 hn8
       have hse := HSE.out
       by_cases h4 : x0.f0.size > 4096
       ·rw [if_pos h4] at hse
        obtain ⟨rfl, rfl⟩ : s = ⟨#[]⟩ ∧ er = 3 := ⟨congrArg Prod.fst hse, congrArg Prod.snd hse⟩
        have d1 : decide (4096 < x0.f0.size) = true := decide_eq_true h4
        have d2 : decide ((4096 : Int) < (x0.f0.size : Int)) = true := decide_eq_true (by omega)
        clear h4 hse
        go_wp2
        go_ret2
        exact ⟨rfl, by repeat (first | exact HB.out | apply below_alloc | apply pw_below_drewN | apply below_drew1)⟩
       ·rw [if_neg h4] at hse
        obtain ⟨rfl, rfl⟩ : s = x0.f0 ∧ er = 0 := ⟨congrArg Prod.fst hse, congrArg Prod.snd hse⟩
        have d1 : decide (4096 < x0.f0.size) = false := decide_eq_false h4
        have d2 : decide ((4096 : Int) < (x0.f0.size : Int)) = false := decide_eq_false (by omega)
        clear h4 hse
        go_wp2
        go_ret2
        exact ⟨rfl, by repeat (first | exact HB.out | apply below_alloc | apply pw_below_drewN | apply below_drew1)⟩
      | succ k1 =>
       have hil : i < l.length := by omega
       obtain ⟨ad, ead, y0, y1⟩ := tok_at HR.out i hil rfl
       subst ead
       replace y0 := below_cell3 y0 HB.out
       replace y1 := below_cell3 y1 HB.out
       have hko := HK.out l[i] (List.getElem_mem hil)
       have hmo : moreT l[i] = false := any_no (by rw [HM.out]; decide) _ (List.getElem_mem hil)
       have hou : outT names.length l[i] = false := any_no (by rw [HO.out]; decide) _ (List.getElem_mem hil)
       rw [List.drop_eq_getElem_cons hil, runR] at hrun
       obtain ⟨⟨o, p⟩, hx⟩ : ∃ x : Tk, x = l[i] := ⟨_, rfl⟩
       rw [← hx] at y0 y1 hrun hko hmo hou
       cases hs : stepR names st ⟨o, p⟩ with
       | none => rw [hs] at hrun; cases hrun
       | some st1 =>
        rw [hs] at hrun
        obtain ⟨n, tx, hn, hle, htx, hst1⟩ := stepR_inv hs
        have hn' : Trm.takesN o p = some n := hn
        have hop : 0 ≤ o ∧ 0 ≤ p ∧ p < 256 := by unfold okT at hko; simp only [Bool.and_eq_true, decide_eq_true_eq] at hko; exact ⟨hko.1.1.1, hko.1.2, hko.2⟩
        have ho45 : o ≠ 4 ∧ o ≠ 5 := by obtain ⟨a, b⟩ := moreT_no hmo; exact ⟨beq_eq_false_iff_ne.1 a, beq_eq_false_iff_ne.1 b⟩
        have ho23 : o ≤ 23 := by
         unfold Trm.takesN at hn'
         repeat' split at hn'
         all_goals first | omega | cases hn'
        have hpn : o = 2 → p < names.length := by
         intro e
         subst e
         unfold outT at hou
         rw [show decide ((⟨2, p⟩ : Tk).f0 = 2) = true from rfl, Bool.true_and, decide_eq_false_iff_not] at hou
         have hou' : ¬ (names.length : Int) ≤ p := hou
         omega
        obtain ⟨m, hm⟩ : ∃ m, m = st.length - n := ⟨_, rfl⟩
        rw [← hm] at htx hst1
        have hT : Aside0 (∀ W, Calls Tryz.prog 32 #[.agg #[.int .u8 o, .int .u8 p]] W fun e w' => e = .returned (.int .i64 (n : Int)) ∧ Below W.heap.size W w') := ⟨fun W => rejoinderref03_Takes.calls o p n W (by unfold rejoinderref03_Takes.f; rw [if_pos ⟨hop.1, hop.2.1⟩]; unfold Trm.takesI; rw [hn'])⟩
        obtain ⟨i0, hi0, _, hsz0, _⟩ := info_parts info72
        have hcut := cut_from (P := Tryz.prog) 67 72 .i64 Tryz.underlying67 hi0 2 hsz0 A8 st.length c8 (m : Int) (by omega) (by omega)
        have hcut2 := cut_full (P := Tryz.prog) 67 72 .i64 Tryz.underlying67 hi0 A8 st.length c8 m (by have := (Kd.R_reads' R8.out).2.1; omega)
        have hC8 := Kd.C_drop (m := m) (c := c8) (Kd.R_reads' R8.out).2.2 (by omega) (Kd.R_reads' R8.out).2.1
        rw [Int.toNat_natCast] at hcut
        have hdl : (st.drop m).length = n := by rw [List.length_drop]; omega
        rw [hdl] at hC8
        rw [show st.length - m = n by omega] at hcut
        obtain ⟨Aa, hAa⟩ : ∃ Aa, Aa = (if c8 = m then A8 else A8.map (·.add (m * 2))) := ⟨_, rfl⟩
        obtain ⟨ca, hca⟩ : ∃ ca, ca = c8 - m := ⟨_, rfl⟩
        replace hC8 : Kd.C k72 wq Aa n (st.drop m) := by rw [hAa]; exact hC8
        rw [← hAa, ← hca] at hcut
        have htd : ∀ x ∈ st.drop m, x.f0.size ≤ 100000 := fun x hx => by have := totR_mem (List.mem_of_mem_drop hx); have := HL.out; omega
        have HPT : Aside0 (∀ W, Below wq.heap.size wq W → Calls Tryz.prog 33 #[.slice A0 names.length c0, .agg #[.int .u8 o, .int .u8 p], .slice Aa n ca] W fun e w' => e = .returned (.string tx) ∧ Below W.heap.size W w') := ⟨fun W hW => by
         have h := put6_calls A0 c0 names ⟨o, p⟩ Aa ca (st.drop m) tx W (Kd.C_below HN.out (below_step HB.out hW)) (Kd.C_below (by rw [hdl]; exact hC8) hW) htd hpn ⟨hop.2.1, hop.2.2⟩ htx
         rw [hdl] at h
         exact h⟩
        have HST : Aside0 (∀ W, Calls Tryz.prog 34 #[.int .u8 o] W fun e w' => e = .returned (.int .i64 (strongR o)) ∧ Drawn0 W w') := ⟨strong_calls hop.1 ho23 ho45.1 ho45.2⟩
        have HTX := Aside0.mk (show tx.size ≤ 100000 by have := textR_size HNM.out htx; have e : totR st = totR (st.take m) + totR (st.drop m) := (by rw [← totR_app, List.take_append_drop]); (have := HL.out; omega))
        have HNX : Aside0 (runR names (st.take m ++ [⟨tx, strongR o⟩]) (l.drop (i + 1)) = some (x0 :: xs) ∧ (st.take m ++ [(⟨tx, strongR o⟩ : Rt)]).length ≤ i + 1 ∧ totR (st.take m ++ [⟨tx, strongR o⟩]) ≤ 30 * (i + 1) ∧ i + 1 + k1 = l.length) := ⟨by rw [hst1] at hrun; exact hrun, by rw [List.length_append, List.length_singleton, List.length_take]; omega, by have := totR_step (k := strongR o) (textR_size HNM.out htx); omega, by omega⟩
        have HM8 := Aside0.mk (show m ≤ st.length ∧ st.length ≤ 512 from ⟨by omega, by have := HL.out; omega⟩)
        have cin : decide (i < l.length) = true := decide_eq_true hil
        have p1 := eq_true (show (0 : Int) ≤ (i : Int) by omega)
        have p2 := eq_true hil
        have hw : Aside0 (wrap64 ((i : Int) + 1) = ((i + 1 : Nat) : Int)) := ⟨by have := HL.out; unfold wrap64; omega⟩
        have wm : IntKind.i64.wrap ((st.length : Int) - (n : Int)) = (m : Int) := by rw [i64_w]; unfold wrap64; have := HL.out; omega
        have Y0 := Aside0.mk y0
        have Y1 := Aside0.mk y1
        clear hrun hs hn hn' hle htx hst1 hop ho45 ho23 hpn hm hi0 hsz0 hC8 hdl hAa hca htd hst htot hi hil hx hko hmo hou
        go_wp2_with (go_at_call 32; refine (hT.out _).mono ?_; rintro e w2 ⟨rfl, hq⟩; have HQ2 : Aside0 (Below wq.heap.size wq w2) := ⟨hq⟩; have HB2 := Aside0.mk (below_step HB.out hq); replace y0 := below_cell3 Y0.out hq; replace y1 := below_cell3 Y1.out hq; clear hq)
        have nn0 := World.new_ne w2 _ y0
        have nn1 := World.new_ne w2 _ y1
        go_cut [11] from 69 to 84 (fun v11 wc => ∃ g, v11 = .pointer (some ⟨g, 0, none⟩) ∧ Aside0 (wc.heap[g]? = some (.cells #[.string tx, .int .i64 (strongR o)] 72 (0, 0))) ∧ Aside0 (Below wq.heap.size wq wc))
        case first =>
         go_region_held3 (fun w' => w'.cell? (ad.add (i * 2)) = some (.int .u8 o) ∧ w'.cell? ⟨(ad.add (i * 2)).block, (ad.add (i * 2)).off + 1, none⟩ = some (.int .u8 p)) (first | exact ⟨by assumption, by assumption⟩ | go_keep | exact ⟨below_cell3 Y0.out (by repeat (first | exact Below.refl _ _ | exact HQ4.out | exact HQ3.out | exact HQ2.out | apply below_alloc | apply pw_below_drewN | apply below_drew1)), below_cell3 Y1.out (by repeat (first | exact Below.refl _ _ | exact HQ4.out | exact HQ3.out | exact HQ2.out | apply below_alloc | apply pw_below_drewN | apply below_drew1))⟩) ((first | (go_at_call 33; refine (HPT.out _ ?hb).mono ?_; (case hb => exact (by repeat (first | exact Below.refl _ _ | exact HQ4.out | exact HQ3.out | exact HQ2.out | apply below_alloc | apply pw_below_drewN | apply below_drew1))); rintro e w3 ⟨rfl, hq⟩; have HQ3 : Aside0 (Below wq.heap.size wq w3) := ⟨below_step (by repeat (first | exact Below.refl _ _ | exact HQ4.out | exact HQ3.out | exact HQ2.out | apply below_alloc | apply pw_below_drewN | apply below_drew1)) hq⟩; have z0 := below_cell3 Y0.out HQ3.out; have z1 := below_cell3 Y1.out HQ3.out; have nz0 := World.new_ne w3 _ z0; have nz1 := World.new_ne w3 _ z1; (try (have BZ := kept_block hq (blk_new w2 (.cells #[.string ⟨#[]⟩, .int .i64 0] 72)); have q0 : w3.cell? ⟨w2.heap.size, 0, none⟩ = some (.string ⟨#[]⟩) := (blk_cell BZ 0).trans rfl; have q1 : w3.cell? ⟨w2.heap.size, 1, none⟩ = some (.int .i64 0) := (blk_cell BZ 1).trans rfl; have f0 := blk_frozen BZ 0; have f1 := blk_frozen BZ 1; have BZ := Aside0.mk BZ)); clear hq) | (go_at_call 34; with_reducible refine (HST.out _).mono ?_; rintro e w4 ⟨rfl, hd⟩; have HQ4 : Aside0 (Below wq.heap.size wq w4) := ⟨below_step (by repeat (first | exact Below.refl _ _ | exact HQ4.out | exact HQ3.out | exact HQ2.out | apply below_alloc | apply pw_below_drewN | apply below_drew1)) hd.below⟩; have z0 := below_cell3 Y0.out HQ4.out; have z1 := below_cell3 Y1.out HQ4.out; have nz0 := World.new_ne w4 _ z0; have nz1 := World.new_ne w4 _ z1; (first | (have BZ := kept_block hd.below (blk_new w3 (.cells #[.string ⟨#[]⟩, .int .i64 0] 72)); have q0 : w4.cell? ⟨w3.heap.size, 0, none⟩ = some (.string ⟨#[]⟩) := (blk_cell BZ 0).trans rfl; have q1 : w4.cell? ⟨w3.heap.size, 1, none⟩ = some (.int .i64 0) := (blk_cell BZ 1).trans rfl; have f0 := blk_frozen BZ 0; have f1 := blk_frozen BZ 1; have BZ := Aside0.mk BZ) | (have BZ := kept_block hd.below BZ.out; have q0 : w4.cell? ⟨w2.heap.size, 0, none⟩ = some (.string ⟨#[]⟩) := (blk_cell BZ 0).trans rfl; have q1 : w4.cell? ⟨w2.heap.size, 1, none⟩ = some (.int .i64 0) := (blk_cell BZ 1).trans rfl; have f0 := blk_frozen BZ 0; have f1 := blk_frozen BZ 1; have BZ := Aside0.mk BZ) | skip); clear hd)))
         all_goals (go_wp2_with fail; go_meet)
         all_goals (case rel => first
          | exact ⟨_, rfl, ⟨blk_new w4 _⟩, ⟨below_alloc HQ4.out _⟩⟩
          | exact ⟨_, rfl, ⟨blk_put (blk_put BZ.out 0 _ rfl) 1 _ rfl⟩, ⟨below_set (below_set HQ4.out HQ3.out.size) HQ3.out.size⟩⟩
          | exact ⟨_, rfl, ⟨blk_put (blk_put BZ.out 0 _ rfl) 1 _ rfl⟩, ⟨below_set (below_set HQ4.out HQ2.out.size) HQ2.out.size⟩⟩)
        case rest =>
         obtain ⟨g, rfl, BT, HQT⟩ := hcut
         have HBC := Aside0.mk (below_step HB.out HQT.out)
         have RC := Aside0.mk (Kd.R_below R8.out HQT.out)
         have q0 : wc.cell? ⟨g, 0, none⟩ = some (.string tx) := (blk_cell BT.out 0).trans rfl
         have q1 : wc.cell? ⟨g, 1, none⟩ = some (.int .i64 (strongR o)) := (blk_cell BT.out 1).trans rfl
         have nq0 := World.new_ne wc _ q0
         have nq1 := World.new_ne wc _ q1
         clear y0 y1 nn0 nn1 HQ2 HB2
         go_wp2_with fail
         go_region_held3 (fun w' => w'.cell? ⟨g, 0, none⟩ = some (.string tx) ∧ w'.cell? ⟨g, 1, none⟩ = some (.int .i64 (strongR o))) (first | exact ⟨by assumption, by assumption⟩ | go_keep) ((first | (refine full_step w.heap.size A8 st.length c8 m st ⟨tx, strongR o⟩ (fun _ => True) (by rfl) (.tmp 88) (.tmp 90) rfl rfl rfl ?aR ?ab HM8.out.1 ?al ?aB ?_; (case aR => ((with_reducible repeat (first | refine Kd.R_alloc ?_ _ | refine Kd.R_drew ?_ | refine Kd.R_drewN ?_ _)); exact RC.out)); (case ab => exact Below.size (by repeat (first | exact Below.refl _ _ | exact HBC.out | apply below_alloc | apply pw_below_drewN | apply below_drew1))); (case al => (have := HM8.out.2; omega)); (case aB => first | exact blk_new _ _ | exact blk_drew (blk_new _ _)); intro v1 w6 hR6 hg6; have R6 := Aside0.mk hR6; have BT6 : w6.heap[g]? = some (.cells #[.string tx, .int .i64 (strongR o)] 72 (0, 0)) := blk_grown (by (with_reducible repeat (first | refine blk_alloc ?_ _ | refine blk_drew ?_ | refine blk_drewN ?_ _)); exact BT.out) hg6 (fun e => by cases e); have q60 : w6.cell? ⟨g, 0, none⟩ = some (.string tx) := (blk_cell BT6 0).trans rfl; have q61 : w6.cell? ⟨g, 1, none⟩ = some (.int .i64 (strongR o)) := (blk_cell BT6 1).trans rfl; clear BT6; have HB6 : Aside0 (Below w.heap.size w w6) := ⟨pw_below_grown (by repeat (first | exact Below.refl _ _ | exact HBC.out | apply below_alloc | apply pw_below_drewN | apply below_drew1)) none (Below.size (by repeat (first | exact Below.refl _ _ | exact HBC.out | apply below_alloc | apply pw_below_drewN | apply below_drew1))) hg6 (fun k hk => by cases hk)⟩; clear hR6 hg6)))
         go_wp2
         go_roundg k1
         case measure => exact Nat.lt_succ_self _
         case rel => exact ⟨_, _, _, rfl, rfl, rfl, ⟨i + 1, _, by first | rfl | (show Value.int .i64 (wrap64 _) = _; rw [hw.out]), HNX.out.2.2.2, R6.out, HB6.out, HNX.out.1, HNX.out.2.1, HNX.out.2.2.1⟩⟩
end Go.Proofs.YtaogoabnidbbpaaGreatDoor.PText
namespace Go.Proofs.YtaogoabnidbbpaaGreatDoor.PText
open Go.RowKit Go.Proofs.YtaogoabnidbbpaaGreatDoorW.PrintWords Go.Proofs.YtaogoabnidbbpaaGreatDoorW.PrintLast Go.Proofs.YtaogoabnidbbpaaGreatDoorW.PrintMore
set_option linter.unusedVariables false
set_option linter.unusedSimpArgs false
def rejoinderref06_told.f (names : List ByteArray) (l : List Tk) : Option (ByteArray × Int) := if l.length ≤ 512 ∧ l.all okT = true ∧ (names.all fun x => decide (x.size ≤ 20)) = true then toldR names l else none
theorem rejoinderref06_told.calls (A0 : Option Addr) (c0 : Nat) (l0 : List ByteArray) (A1 : Option Addr) (c1 : Nat) (l1 : List (S41)) (r1 : ByteArray) (r2 : Int) (w : World) (hr0 : Kd.C Kd.string w A0 l0.length l0) (hc0 : l0.length ≤ c0) (hr1 : Kd.C k41 w A1 l1.length l1) (hc1 : l1.length ≤ c1) (h : rejoinderref06_told.f l0 l1 = some (r1, r2)) :
  Calls Tryz.prog 18 #[.slice A0 l0.length c0, .slice A1 l1.length c1] w fun e w' => e = .returned (.tuple #[.string r1, .int .i64 r2]) ∧ Below w.heap.size w w' := by
 unfold rejoinderref06_told.f at h
 split at h
 ·rename_i hc
  exact told_calls A0 c0 l0 A1 c1 l1 r1 r2 w hr0 hr1 hc.1 (List.all_eq_true.1 hc.2.1) (fun x hx => of_decide_eq_true (List.all_eq_true.1 hc.2.2 x hx)) h
 ·cases h
end Go.Proofs.YtaogoabnidbbpaaGreatDoor.PText
namespace Go.Proofs.YtaogoabnidbbpaaGreatDoor.PText
open Go.RowKit Go.Proofs.YtaogoabnidbbpaaGreatDoorW.PrintWords Go.Proofs.YtaogoabnidbbpaaGreatDoorW.PrintLast Go.Proofs.YtaogoabnidbbpaaGreatDoorW.PrintMore
set_option linter.unusedVariables false
set_option linter.unusedSimpArgs false
attribute [local go_sem] max2_int min2_int max_two min_two max_three min_three max_four min_four
attribute [local go_sem high] eqA41
def rejoinderref05_Formula.f (l0 : List ByteArray) (a1 : ByteArray) : Option ((List (S41)) × Int × Int) := (rejoinderref05_read.f l0 a1 false).bind fun bt432 => (some (bt432.1, bt432.2.1, bt432.2.2))
set_option maxHeartbeats 8000000 in
set_option maxRecDepth 100000 in
theorem rejoinderref05_Formula.calls (A0 : Option Addr) (c0 : Nat) (l0 : List ByteArray) (a1 : ByteArray) (r1 : List (S41)) (r2 : Int) (r3 : Int) (w : World) (hr0 : Kd.C Kd.string w A0 l0.length l0) (hc0 : l0.length ≤ c0) (h : rejoinderref05_Formula.f l0 a1 = some (r1, r2, r3)) :
  Calls Tryz.prog 22 #[.slice A0 l0.length c0, .string a1] w fun e w' => ∃ v0_ : Value, e = .returned (.tuple #[v0_, .int .i64 r2, .int .i64 r3]) ∧ Kd.R k41 41 w' w.heap.size (fun _ => True) v0_ r1 ∧ Below w.heap.size w w' := by
 have HR0 := Aside0.mk hr0
 have HC0 := Aside0.mk hc0
 clear hr0 hc0
 have HB := Aside0.mk (Below.refl w.heap.size w)
 have H : ((rejoinderref05_read.f l0 a1 false).bind fun bt432 => (some (bt432.1, bt432.2.1, bt432.2.2))) = some (r1, r2, r3) := h
 clear h
 replace H := Option.bind_eq_some_iff.mp H
 obtain ⟨⟨t432, t433, t434⟩, A30, H⟩ := H
 replace H : (some (t432, t433, t434)) = some (r1, r2, r3) := H
 have A3 := Aside0.mk A30
 clear A30
 simp only [Option.some.injEq, Prod.mk.injEq] at H
 obtain ⟨rfl, rfl, rfl⟩ := H
 go_enter Tryz.func22, Tryz.ntmps22
 go_wp2_with (first | ((with_reducible refine gate_callee (f := 36) rfl ?_); refine goesL_ (some 9) rfl rfl Tryz.func36 (by kernel_rfl) rfl #[.slice A0 l0.length c0, .string a1, .bool false] rfl (by (try simp only [List.map_toArray, List.map_cons, List.map_nil]); first | done | rfl | (simp only [List.length_drop, List.length_take]; rfl)) ?_; (with_reducible refine (rejoinderref05_read.calls _ _ l0 a1 false t432 t433 t434 _ ?side1 ?side2 A3.out).mono ?_); (case side1 => repeat (first | exact HR0.out | (with_reducible refine Kd.C_alloc ?_ _) | (with_reducible refine Kd.C_drewN ?_ _) | (with_reducible refine Kd.C_drew ?_))); (case side2 => exact HC0.out); rintro e w4 ⟨v435, rfl, ho0, hb⟩; refine ⟨_, rfl, ?_⟩; have n0_ := Aside0.mk (Kd.R_lower ho0 (below_size (by repeat (first | (with_reducible first | exact HB.out | apply below_alloc | apply pw_below_drewN | apply below_drew1) | exact HB.out)))); have n1_ := Aside0.mk (below_step (by repeat (first | (with_reducible first | exact HB.out | apply below_alloc | apply pw_below_drewN | apply below_drew1) | exact HB.out)) hb); clear HB; have HO436 := n0_; have HB := n1_; clear n0_ n1_; (try clear hb); (try clear hb2); (try clear hk); (try clear hi); (try clear ho0)))
 go_ret3
 exact ⟨_, by first | rfl | (simp [errW_none, errW_some] <;> rfl) | (simp [*, errW_none, errW_some] <;> rfl), by (with_reducible repeat (first | apply Kd.R_alloc | apply Kd.R_drewN | apply Kd.R_drew)); exact HO436.out, by repeat (first | (with_reducible first | exact HB.out | apply below_alloc | apply pw_below_drewN | apply below_drew1) | exact HB.out)⟩
def rejoinderref06_Formula.f (l0 : List ByteArray) (l1 : List (S41)) : Option (ByteArray × Int) := (rejoinderref01_Check.f l0).bind fun t228 => (if t228 = 0 then ((rejoinderref03_Check.f l1).bind fun t229 => (if t229 = 0 then ((rejoinderref06_told.f l0 l1).bind fun bt230 => (some (bt230.1, bt230.2))) else (some ((⟨#[]⟩ : ByteArray), t229)))) else (some ((⟨#[]⟩ : ByteArray), t228)))
set_option maxHeartbeats 8000000 in
set_option maxRecDepth 100000 in
theorem rejoinderref06_Formula.calls (A0 : Option Addr) (c0 : Nat) (l0 : List ByteArray) (A1 : Option Addr) (c1 : Nat) (l1 : List (S41)) (r1 : ByteArray) (r2 : Int) (w : World) (hr0 : Kd.C Kd.string w A0 l0.length l0) (hc0 : l0.length ≤ c0) (hr1 : Kd.C k41 w A1 l1.length l1) (hc1 : l1.length ≤ c1) (h : rejoinderref06_Formula.f l0 l1 = some (r1, r2)) :
  Calls Tryz.prog 6 #[.slice A0 l0.length c0, .slice A1 l1.length c1] w fun e w' => e = .returned (.tuple #[.string r1, .int .i64 r2]) ∧ Below w.heap.size w w' := by
 have HR0 := Aside0.mk hr0
 have HC0 := Aside0.mk hc0
 clear hr0 hc0
 have HR1 := Aside0.mk hr1
 have HC1 := Aside0.mk hc1
 clear hr1 hc1
 have HB := Aside0.mk (Below.refl w.heap.size w)
 have H : ((rejoinderref01_Check.f l0).bind fun t228 => (if t228 = 0 then ((rejoinderref03_Check.f l1).bind fun t229 => (if t229 = 0 then ((rejoinderref06_told.f l0 l1).bind fun bt230 => (some (bt230.1, bt230.2))) else (some ((⟨#[]⟩ : ByteArray), t229)))) else (some ((⟨#[]⟩ : ByteArray), t228)))) = some (r1, r2) := h
 clear h
 replace H := Option.bind_eq_some_iff.mp H
 obtain ⟨t228, A30, H⟩ := H
 replace H : (if t228 = 0 then ((rejoinderref03_Check.f l1).bind fun t229 => (if t229 = 0 then ((rejoinderref06_told.f l0 l1).bind fun bt230 => (some (bt230.1, bt230.2))) else (some ((⟨#[]⟩ : ByteArray), t229)))) else (some ((⟨#[]⟩ : ByteArray), t228))) = some (r1, r2) := H
 have A3 := Aside0.mk A30
 clear A30
 by_cases c4 : t228 = 0
 ·rw [if_pos c4] at H
  have c4b0 : (t228 == 0) = true := beq_iff_eq.mpr c4
  have c4b1 : (t228 != 0) = false := bne_eq_false_iff_eq.mpr c4
  clear c4
  replace H := Option.bind_eq_some_iff.mp H
  obtain ⟨t229, A50, H⟩ := H
  replace H : (if t229 = 0 then ((rejoinderref06_told.f l0 l1).bind fun bt230 => (some (bt230.1, bt230.2))) else (some ((⟨#[]⟩ : ByteArray), t229))) = some (r1, r2) := H
  have A5 := Aside0.mk A50
  clear A50
  by_cases c6 : t229 = 0
  ·rw [if_pos c6] at H
   have c6b0 : (t229 == 0) = true := beq_iff_eq.mpr c6
   have c6b1 : (t229 != 0) = false := bne_eq_false_iff_eq.mpr c6
   clear c6
   replace H := Option.bind_eq_some_iff.mp H
   obtain ⟨⟨t230, t231⟩, A70, H⟩ := H
   replace H : (some (t230, t231)) = some (r1, r2) := H
   have A7 := Aside0.mk A70
   clear A70
   simp only [Option.some.injEq, Prod.mk.injEq] at H
   obtain ⟨rfl, rfl⟩ := H
   go_enter Tryz.func6, Tryz.ntmps6
   go_wp2_with (first | ((with_reducible refine gate_callee (f := 16) rfl ?_); refine goesL_ (some 8) rfl rfl Tryz.func16 (by kernel_rfl) rfl #[.slice A0 l0.length c0] rfl (by (try simp only [List.map_toArray, List.map_cons, List.map_nil]); first | done | rfl | (simp only [List.length_drop, List.length_take]; rfl)) ?_; (with_reducible refine (rejoinderref01_Check.calls _ _ l0 t228 _ ?side1 ?side2 A3.out).mono ?_); (case side1 => repeat (first | exact HR0.out | (with_reducible refine Kd.C_alloc ?_ _) | (with_reducible refine Kd.C_drewN ?_ _) | (with_reducible refine Kd.C_drew ?_))); (case side2 => exact HC0.out); rintro e w' ⟨rfl, ⟨nd, rfl⟩⟩; refine ⟨_, rfl, ?_⟩) | ((with_reducible refine gate_callee (f := 17) rfl ?_); refine goesL_ (some 13) rfl rfl Tryz.func17 (by kernel_rfl) rfl #[.slice A1 l1.length c1] rfl (by (try simp only [List.map_toArray, List.map_cons, List.map_nil]); first | done | rfl | (simp only [List.length_drop, List.length_take]; rfl)) ?_; (with_reducible refine (rejoinderref03_Check.calls _ _ l1 t229 _ ?side1 ?side2 A5.out).mono ?_); (case side1 => repeat (first | exact HR1.out | (with_reducible refine Kd.C_alloc ?_ _) | (with_reducible refine Kd.C_drewN ?_ _) | (with_reducible refine Kd.C_drew ?_))); (case side2 => exact HC1.out); rintro e w8 ⟨rfl, hb⟩; refine ⟨_, rfl, ?_⟩; have n0_ := Aside0.mk (below_step (by repeat (first | (with_reducible first | exact HB.out | apply below_alloc | apply pw_below_drewN | apply below_drew1) | exact HB.out)) hb); clear HB; have HB := n0_; clear n0_; (try clear hb); (try clear hb2); (try clear hk); (try clear hi)) | ((with_reducible refine gate_callee (f := 18) rfl ?_); refine goesL_ (some 19) rfl rfl Tryz.func18 (by kernel_rfl) rfl #[.slice A0 l0.length c0, .slice A1 l1.length c1] rfl (by (try simp only [List.map_toArray, List.map_cons, List.map_nil]); first | done | rfl | (simp only [List.length_drop, List.length_take]; rfl)) ?_; (with_reducible refine (rejoinderref06_told.calls _ _ l0 _ _ l1 t230 t231 _ ?side1 ?side2 ?side3 ?side4 A7.out).mono ?_); (case side1 => repeat (first | exact (Kd.C_below HR0.out HB.out) | (with_reducible refine Kd.C_alloc ?_ _) | (with_reducible refine Kd.C_drewN ?_ _) | (with_reducible refine Kd.C_drew ?_))); (case side2 => exact HC0.out); (case side3 => repeat (first | exact (Kd.C_below HR1.out HB.out) | (with_reducible refine Kd.C_alloc ?_ _) | (with_reducible refine Kd.C_drewN ?_ _) | (with_reducible refine Kd.C_drew ?_))); (case side4 => exact HC1.out); rintro e w9 ⟨rfl, hb⟩; refine ⟨_, rfl, ?_⟩; have n0_ := Aside0.mk (below_step (by repeat (first | (with_reducible first | exact HB.out | apply below_alloc | apply pw_below_drewN | apply below_drew1) | exact HB.out)) hb); clear HB; have HB := n0_; clear n0_; (try clear hb); (try clear hb2); (try clear hk); (try clear hi)))
   go_ret2
   exact ⟨by first | rfl | (simp [errW_none, errW_some] <;> rfl) | (simp [*, errW_none, errW_some] <;> rfl), by repeat (first | (with_reducible first | exact HB.out | apply below_alloc | apply pw_below_drewN | apply below_drew1) | exact HB.out)⟩
  ·rw [if_neg c6] at H
   have c6b0 : (t229 == 0) = false := beq_eq_false_iff_ne.mpr c6
   have c6b1 : (t229 != 0) = true := bne_iff_ne.mpr c6
   simp only [Option.some.injEq, Prod.mk.injEq] at H
   obtain ⟨rfl, rfl⟩ := H
   go_enter Tryz.func6, Tryz.ntmps6
   go_wp2_with (first | ((with_reducible refine gate_callee (f := 16) rfl ?_); refine goesL_ (some 8) rfl rfl Tryz.func16 (by kernel_rfl) rfl #[.slice A0 l0.length c0] rfl (by (try simp only [List.map_toArray, List.map_cons, List.map_nil]); first | done | rfl | (simp only [List.length_drop, List.length_take]; rfl)) ?_; (with_reducible refine (rejoinderref01_Check.calls _ _ l0 t228 _ ?side1 ?side2 A3.out).mono ?_); (case side1 => repeat (first | exact HR0.out | (with_reducible refine Kd.C_alloc ?_ _) | (with_reducible refine Kd.C_drewN ?_ _) | (with_reducible refine Kd.C_drew ?_))); (case side2 => exact HC0.out); rintro e w' ⟨rfl, ⟨nd, rfl⟩⟩; refine ⟨_, rfl, ?_⟩) | ((with_reducible refine gate_callee (f := 17) rfl ?_); refine goesL_ (some 13) rfl rfl Tryz.func17 (by kernel_rfl) rfl #[.slice A1 l1.length c1] rfl (by (try simp only [List.map_toArray, List.map_cons, List.map_nil]); first | done | rfl | (simp only [List.length_drop, List.length_take]; rfl)) ?_; (with_reducible refine (rejoinderref03_Check.calls _ _ l1 t229 _ ?side1 ?side2 A5.out).mono ?_); (case side1 => repeat (first | exact HR1.out | (with_reducible refine Kd.C_alloc ?_ _) | (with_reducible refine Kd.C_drewN ?_ _) | (with_reducible refine Kd.C_drew ?_))); (case side2 => exact HC1.out); rintro e w10 ⟨rfl, hb⟩; refine ⟨_, rfl, ?_⟩; have n0_ := Aside0.mk (below_step (by repeat (first | (with_reducible first | exact HB.out | apply below_alloc | apply pw_below_drewN | apply below_drew1) | exact HB.out)) hb); clear HB; have HB := n0_; clear n0_; (try clear hb); (try clear hb2); (try clear hk); (try clear hi)))
   go_ret2
   exact ⟨by first | rfl | (simp [errW_none, errW_some] <;> rfl) | (simp [*, errW_none, errW_some] <;> rfl), by repeat (first | (with_reducible first | exact HB.out | apply below_alloc | apply pw_below_drewN | apply below_drew1) | exact HB.out)⟩
 ·rw [if_neg c4] at H
  have c4b0 : (t228 == 0) = false := beq_eq_false_iff_ne.mpr c4
  have c4b1 : (t228 != 0) = true := bne_iff_ne.mpr c4
  simp only [Option.some.injEq, Prod.mk.injEq] at H
  obtain ⟨rfl, rfl⟩ := H
  go_enter Tryz.func6, Tryz.ntmps6
  go_wp2_with (first | ((with_reducible refine gate_callee (f := 16) rfl ?_); refine goesL_ (some 8) rfl rfl Tryz.func16 (by kernel_rfl) rfl #[.slice A0 l0.length c0] rfl (by (try simp only [List.map_toArray, List.map_cons, List.map_nil]); first | done | rfl | (simp only [List.length_drop, List.length_take]; rfl)) ?_; (with_reducible refine (rejoinderref01_Check.calls _ _ l0 t228 _ ?side1 ?side2 A3.out).mono ?_); (case side1 => repeat (first | exact HR0.out | (with_reducible refine Kd.C_alloc ?_ _) | (with_reducible refine Kd.C_drewN ?_ _) | (with_reducible refine Kd.C_drew ?_))); (case side2 => exact HC0.out); rintro e w' ⟨rfl, ⟨nd, rfl⟩⟩; refine ⟨_, rfl, ?_⟩))
  go_ret2
  exact ⟨by first | rfl | (simp [errW_none, errW_some] <;> rfl) | (simp [*, errW_none, errW_some] <;> rfl), by repeat (first | (with_reducible first | exact HB.out | apply below_alloc | apply pw_below_drewN | apply below_drew1) | exact HB.out)⟩
def rejoinderref06_Path.f (l0 : List ByteArray) (l1 : List (S41)) : Option (ByteArray × Int) := (rejoinderref01_Check.f l0).bind fun t237 => (if t237 = 0 then ((rejoinderref03_Path.f l1).bind fun t238 => (if t238 = 0 then ((rejoinderref06_told.f l0 l1).bind fun bt239 => (some (bt239.1, bt239.2))) else (some ((⟨#[]⟩ : ByteArray), t238)))) else (some ((⟨#[]⟩ : ByteArray), t237)))
set_option maxHeartbeats 8000000 in
set_option maxRecDepth 100000 in
theorem rejoinderref06_Path.calls (A0 : Option Addr) (c0 : Nat) (l0 : List ByteArray) (A1 : Option Addr) (c1 : Nat) (l1 : List (S41)) (r1 : ByteArray) (r2 : Int) (w : World) (hr0 : Kd.C Kd.string w A0 l0.length l0) (hc0 : l0.length ≤ c0) (hr1 : Kd.C k41 w A1 l1.length l1) (hc1 : l1.length ≤ c1) (h : rejoinderref06_Path.f l0 l1 = some (r1, r2)) :
  Calls Tryz.prog 8 #[.slice A0 l0.length c0, .slice A1 l1.length c1] w fun e w' => e = .returned (.tuple #[.string r1, .int .i64 r2]) ∧ Below w.heap.size w w' := by
 have HR0 := Aside0.mk hr0
 have HC0 := Aside0.mk hc0
 clear hr0 hc0
 have HR1 := Aside0.mk hr1
 have HC1 := Aside0.mk hc1
 clear hr1 hc1
 have HB := Aside0.mk (Below.refl w.heap.size w)
 have H : ((rejoinderref01_Check.f l0).bind fun t237 => (if t237 = 0 then ((rejoinderref03_Path.f l1).bind fun t238 => (if t238 = 0 then ((rejoinderref06_told.f l0 l1).bind fun bt239 => (some (bt239.1, bt239.2))) else (some ((⟨#[]⟩ : ByteArray), t238)))) else (some ((⟨#[]⟩ : ByteArray), t237)))) = some (r1, r2) := h
 clear h
 replace H := Option.bind_eq_some_iff.mp H
 obtain ⟨t237, A30, H⟩ := H
 replace H : (if t237 = 0 then ((rejoinderref03_Path.f l1).bind fun t238 => (if t238 = 0 then ((rejoinderref06_told.f l0 l1).bind fun bt239 => (some (bt239.1, bt239.2))) else (some ((⟨#[]⟩ : ByteArray), t238)))) else (some ((⟨#[]⟩ : ByteArray), t237))) = some (r1, r2) := H
 have A3 := Aside0.mk A30
 clear A30
 by_cases c4 : t237 = 0
 ·rw [if_pos c4] at H
  have c4b0 : (t237 == 0) = true := beq_iff_eq.mpr c4
  have c4b1 : (t237 != 0) = false := bne_eq_false_iff_eq.mpr c4
  clear c4
  replace H := Option.bind_eq_some_iff.mp H
  obtain ⟨t238, A50, H⟩ := H
  replace H : (if t238 = 0 then ((rejoinderref06_told.f l0 l1).bind fun bt239 => (some (bt239.1, bt239.2))) else (some ((⟨#[]⟩ : ByteArray), t238))) = some (r1, r2) := H
  have A5 := Aside0.mk A50
  clear A50
  by_cases c6 : t238 = 0
  ·rw [if_pos c6] at H
   have c6b0 : (t238 == 0) = true := beq_iff_eq.mpr c6
   have c6b1 : (t238 != 0) = false := bne_eq_false_iff_eq.mpr c6
   clear c6
   replace H := Option.bind_eq_some_iff.mp H
   obtain ⟨⟨t239, t240⟩, A70, H⟩ := H
   replace H : (some (t239, t240)) = some (r1, r2) := H
   have A7 := Aside0.mk A70
   clear A70
   simp only [Option.some.injEq, Prod.mk.injEq] at H
   obtain ⟨rfl, rfl⟩ := H
   go_enter Tryz.func8, Tryz.ntmps8
   go_wp2_with (first | ((with_reducible refine gate_callee (f := 16) rfl ?_); refine goesL_ (some 8) rfl rfl Tryz.func16 (by kernel_rfl) rfl #[.slice A0 l0.length c0] rfl (by (try simp only [List.map_toArray, List.map_cons, List.map_nil]); first | done | rfl | (simp only [List.length_drop, List.length_take]; rfl)) ?_; (with_reducible refine (rejoinderref01_Check.calls _ _ l0 t237 _ ?side1 ?side2 A3.out).mono ?_); (case side1 => repeat (first | exact HR0.out | (with_reducible refine Kd.C_alloc ?_ _) | (with_reducible refine Kd.C_drewN ?_ _) | (with_reducible refine Kd.C_drew ?_))); (case side2 => exact HC0.out); rintro e w' ⟨rfl, ⟨nd, rfl⟩⟩; refine ⟨_, rfl, ?_⟩) | ((with_reducible refine gate_callee (f := 20) rfl ?_); refine goesL_ (some 13) rfl rfl Tryz.func20 (by kernel_rfl) rfl #[.slice A1 l1.length c1] rfl (by (try simp only [List.map_toArray, List.map_cons, List.map_nil]); first | done | rfl | (simp only [List.length_drop, List.length_take]; rfl)) ?_; (with_reducible refine (rejoinderref03_Path.calls _ _ l1 t238 _ ?side1 ?side2 A5.out).mono ?_); (case side1 => repeat (first | exact HR1.out | (with_reducible refine Kd.C_alloc ?_ _) | (with_reducible refine Kd.C_drewN ?_ _) | (with_reducible refine Kd.C_drew ?_))); (case side2 => exact HC1.out); rintro e w8 ⟨rfl, hb⟩; refine ⟨_, rfl, ?_⟩; have n0_ := Aside0.mk (below_step (by repeat (first | (with_reducible first | exact HB.out | apply below_alloc | apply pw_below_drewN | apply below_drew1) | exact HB.out)) hb); clear HB; have HB := n0_; clear n0_; (try clear hb); (try clear hb2); (try clear hk); (try clear hi)) | ((with_reducible refine gate_callee (f := 18) rfl ?_); refine goesL_ (some 19) rfl rfl Tryz.func18 (by kernel_rfl) rfl #[.slice A0 l0.length c0, .slice A1 l1.length c1] rfl (by (try simp only [List.map_toArray, List.map_cons, List.map_nil]); first | done | rfl | (simp only [List.length_drop, List.length_take]; rfl)) ?_; (with_reducible refine (rejoinderref06_told.calls _ _ l0 _ _ l1 t239 t240 _ ?side1 ?side2 ?side3 ?side4 A7.out).mono ?_); (case side1 => repeat (first | exact (Kd.C_below HR0.out HB.out) | (with_reducible refine Kd.C_alloc ?_ _) | (with_reducible refine Kd.C_drewN ?_ _) | (with_reducible refine Kd.C_drew ?_))); (case side2 => exact HC0.out); (case side3 => repeat (first | exact (Kd.C_below HR1.out HB.out) | (with_reducible refine Kd.C_alloc ?_ _) | (with_reducible refine Kd.C_drewN ?_ _) | (with_reducible refine Kd.C_drew ?_))); (case side4 => exact HC1.out); rintro e w9 ⟨rfl, hb⟩; refine ⟨_, rfl, ?_⟩; have n0_ := Aside0.mk (below_step (by repeat (first | (with_reducible first | exact HB.out | apply below_alloc | apply pw_below_drewN | apply below_drew1) | exact HB.out)) hb); clear HB; have HB := n0_; clear n0_; (try clear hb); (try clear hb2); (try clear hk); (try clear hi)))
   go_ret2
   exact ⟨by first | rfl | (simp [errW_none, errW_some] <;> rfl) | (simp [*, errW_none, errW_some] <;> rfl), by repeat (first | (with_reducible first | exact HB.out | apply below_alloc | apply pw_below_drewN | apply below_drew1) | exact HB.out)⟩
  ·rw [if_neg c6] at H
   have c6b0 : (t238 == 0) = false := beq_eq_false_iff_ne.mpr c6
   have c6b1 : (t238 != 0) = true := bne_iff_ne.mpr c6
   simp only [Option.some.injEq, Prod.mk.injEq] at H
   obtain ⟨rfl, rfl⟩ := H
   go_enter Tryz.func8, Tryz.ntmps8
   go_wp2_with (first | ((with_reducible refine gate_callee (f := 16) rfl ?_); refine goesL_ (some 8) rfl rfl Tryz.func16 (by kernel_rfl) rfl #[.slice A0 l0.length c0] rfl (by (try simp only [List.map_toArray, List.map_cons, List.map_nil]); first | done | rfl | (simp only [List.length_drop, List.length_take]; rfl)) ?_; (with_reducible refine (rejoinderref01_Check.calls _ _ l0 t237 _ ?side1 ?side2 A3.out).mono ?_); (case side1 => repeat (first | exact HR0.out | (with_reducible refine Kd.C_alloc ?_ _) | (with_reducible refine Kd.C_drewN ?_ _) | (with_reducible refine Kd.C_drew ?_))); (case side2 => exact HC0.out); rintro e w' ⟨rfl, ⟨nd, rfl⟩⟩; refine ⟨_, rfl, ?_⟩) | ((with_reducible refine gate_callee (f := 20) rfl ?_); refine goesL_ (some 13) rfl rfl Tryz.func20 (by kernel_rfl) rfl #[.slice A1 l1.length c1] rfl (by (try simp only [List.map_toArray, List.map_cons, List.map_nil]); first | done | rfl | (simp only [List.length_drop, List.length_take]; rfl)) ?_; (with_reducible refine (rejoinderref03_Path.calls _ _ l1 t238 _ ?side1 ?side2 A5.out).mono ?_); (case side1 => repeat (first | exact HR1.out | (with_reducible refine Kd.C_alloc ?_ _) | (with_reducible refine Kd.C_drewN ?_ _) | (with_reducible refine Kd.C_drew ?_))); (case side2 => exact HC1.out); rintro e w10 ⟨rfl, hb⟩; refine ⟨_, rfl, ?_⟩; have n0_ := Aside0.mk (below_step (by repeat (first | (with_reducible first | exact HB.out | apply below_alloc | apply pw_below_drewN | apply below_drew1) | exact HB.out)) hb); clear HB; have HB := n0_; clear n0_; (try clear hb); (try clear hb2); (try clear hk); (try clear hi)))
   go_ret2
   exact ⟨by first | rfl | (simp [errW_none, errW_some] <;> rfl) | (simp [*, errW_none, errW_some] <;> rfl), by repeat (first | (with_reducible first | exact HB.out | apply below_alloc | apply pw_below_drewN | apply below_drew1) | exact HB.out)⟩
 ·rw [if_neg c4] at H
  have c4b0 : (t237 == 0) = false := beq_eq_false_iff_ne.mpr c4
  have c4b1 : (t237 != 0) = true := bne_iff_ne.mpr c4
  simp only [Option.some.injEq, Prod.mk.injEq] at H
  obtain ⟨rfl, rfl⟩ := H
  go_enter Tryz.func8, Tryz.ntmps8
  go_wp2_with (first | ((with_reducible refine gate_callee (f := 16) rfl ?_); refine goesL_ (some 8) rfl rfl Tryz.func16 (by kernel_rfl) rfl #[.slice A0 l0.length c0] rfl (by (try simp only [List.map_toArray, List.map_cons, List.map_nil]); first | done | rfl | (simp only [List.length_drop, List.length_take]; rfl)) ?_; (with_reducible refine (rejoinderref01_Check.calls _ _ l0 t237 _ ?side1 ?side2 A3.out).mono ?_); (case side1 => repeat (first | exact HR0.out | (with_reducible refine Kd.C_alloc ?_ _) | (with_reducible refine Kd.C_drewN ?_ _) | (with_reducible refine Kd.C_drew ?_))); (case side2 => exact HC0.out); rintro e w' ⟨rfl, ⟨nd, rfl⟩⟩; refine ⟨_, rfl, ?_⟩))
  go_ret2
  exact ⟨by first | rfl | (simp [errW_none, errW_some] <;> rfl) | (simp [*, errW_none, errW_some] <;> rfl), by repeat (first | (with_reducible first | exact HB.out | apply below_alloc | apply pw_below_drewN | apply below_drew1) | exact HB.out)⟩
def rejoinderref06_Tidy.f (l0 : List ByteArray) (a1 : ByteArray) : Option (ByteArray × Int × Int) := (rejoinderref05_Formula.f l0 a1).bind fun bt437 => (if bt437.2.1 = 0 then ((rejoinderref06_Formula.f l0 bt437.1).bind fun bt442 => (if bt442.2 = 0 then (some (bt442.1, 0, 0)) else (some ((⟨#[]⟩ : ByteArray), bt442.2, (-1))))) else (some ((⟨#[]⟩ : ByteArray), bt437.2.1, bt437.2.2)))
set_option maxHeartbeats 8000000 in
set_option maxRecDepth 100000 in
theorem rejoinderref06_Tidy.calls (A0 : Option Addr) (c0 : Nat) (l0 : List ByteArray) (a1 : ByteArray) (r1 : ByteArray) (r2 : Int) (r3 : Int) (w : World) (hr0 : Kd.C Kd.string w A0 l0.length l0) (hc0 : l0.length ≤ c0) (h : rejoinderref06_Tidy.f l0 a1 = some (r1, r2, r3)) :
  Calls Tryz.prog 10 #[.slice A0 l0.length c0, .string a1] w fun e w' => e = .returned (.tuple #[.string r1, .int .i64 r2, .int .i64 r3]) ∧ Below w.heap.size w w' := by
 have HR0 := Aside0.mk hr0
 have HC0 := Aside0.mk hc0
 clear hr0 hc0
 have HB := Aside0.mk (Below.refl w.heap.size w)
 have H : ((rejoinderref05_Formula.f l0 a1).bind fun bt437 => (if bt437.2.1 = 0 then ((rejoinderref06_Formula.f l0 bt437.1).bind fun bt442 => (if bt442.2 = 0 then (some (bt442.1, 0, 0)) else (some ((⟨#[]⟩ : ByteArray), bt442.2, (-1))))) else (some ((⟨#[]⟩ : ByteArray), bt437.2.1, bt437.2.2)))) = some (r1, r2, r3) := h
 clear h
 replace H := Option.bind_eq_some_iff.mp H
 obtain ⟨⟨t437, t438, t439⟩, A30, H⟩ := H
 replace H : (if t438 = 0 then ((rejoinderref06_Formula.f l0 t437).bind fun bt442 => (if bt442.2 = 0 then (some (bt442.1, 0, 0)) else (some ((⟨#[]⟩ : ByteArray), bt442.2, (-1))))) else (some ((⟨#[]⟩ : ByteArray), t438, t439))) = some (r1, r2, r3) := H
 have A3 := Aside0.mk A30
 clear A30
 by_cases c4 : t438 = 0
 ·rw [if_pos c4] at H
  have c4b0 : (t438 == 0) = true := beq_iff_eq.mpr c4
  have c4b1 : (t438 != 0) = false := bne_eq_false_iff_eq.mpr c4
  clear c4
  replace H := Option.bind_eq_some_iff.mp H
  obtain ⟨⟨t442, t443⟩, A50, H⟩ := H
  replace H : (if t443 = 0 then (some (t442, 0, 0)) else (some ((⟨#[]⟩ : ByteArray), t443, (-1)))) = some (r1, r2, r3) := H
  have A5 := Aside0.mk A50
  clear A50
  by_cases c6 : t443 = 0
  ·rw [if_pos c6] at H
   have c6b0 : (t443 == 0) = true := beq_iff_eq.mpr c6
   have c6b1 : (t443 != 0) = false := bne_eq_false_iff_eq.mpr c6
   clear c6
   simp only [Option.some.injEq, Prod.mk.injEq] at H
   obtain ⟨rfl, rfl, rfl⟩ := H
   go_enter Tryz.func10, Tryz.ntmps10
   go_wp2_with (first | ((with_reducible refine gate_callee (f := 22) rfl ?_); refine goesL_ (some 15) rfl rfl Tryz.func22 (by kernel_rfl) rfl #[.slice A0 l0.length c0, .string a1] rfl (by (try simp only [List.map_toArray, List.map_cons, List.map_nil]); first | done | rfl | (simp only [List.length_drop, List.length_take]; rfl)) ?_; (with_reducible refine (rejoinderref05_Formula.calls _ _ l0 a1 t437 t438 t439 _ ?side1 ?side2 A3.out).mono ?_); (case side1 => repeat (first | exact HR0.out | (with_reducible refine Kd.C_alloc ?_ _) | (with_reducible refine Kd.C_drewN ?_ _) | (with_reducible refine Kd.C_drew ?_))); (case side2 => exact HC0.out); rintro e w7 ⟨v440, rfl, ho0, hb⟩; refine ⟨_, rfl, ?_⟩; have n0_ := Aside0.mk (Kd.R_lower ho0 (below_size (by repeat (first | (with_reducible first | exact HB.out | apply below_alloc | apply pw_below_drewN | apply below_drew1) | exact HB.out)))); have n1_ := Aside0.mk (below_step (by repeat (first | (with_reducible first | exact HB.out | apply below_alloc | apply pw_below_drewN | apply below_drew1) | exact HB.out)) hb); clear HB; have HO441 := n0_; have HB := n1_; clear n0_ n1_; (try clear hb); (try clear hb2); (try clear hk); (try clear hi); (try clear ho0); obtain ⟨Ao8, co8, eo8⟩ := Kd.R_slice HO441.out; subst eo8) | ((with_reducible refine gate_callee (f := 6) rfl ?_); refine goesL_ (some 26) rfl rfl Tryz.func6 (by kernel_rfl) rfl #[.slice A0 l0.length c0, .slice Ao8 t437.length co8] rfl (by (try simp only [List.map_toArray, List.map_cons, List.map_nil]); first | done | rfl | (simp only [List.length_drop, List.length_take]; rfl)) ?_; (with_reducible refine (rejoinderref06_Formula.calls _ _ l0 _ _ t437 t442 t443 _ ?side1 ?side2 ?side3 ?side4 A5.out).mono ?_); (case side1 => repeat (first | exact (Kd.C_below HR0.out HB.out) | (with_reducible refine Kd.C_alloc ?_ _) | (with_reducible refine Kd.C_drewN ?_ _) | (with_reducible refine Kd.C_drew ?_))); (case side2 => exact HC0.out); (case side3 => repeat (first | exact (Kd.R_reads' HO441.out).2.2 | (with_reducible refine Kd.C_alloc ?_ _) | (with_reducible refine Kd.C_drewN ?_ _) | (with_reducible refine Kd.C_drew ?_))); (case side4 => exact (Kd.R_reads' HO441.out).2.1); rintro e w9 ⟨rfl, hb⟩; refine ⟨_, rfl, ?_⟩; have n0_ := Aside0.mk (Kd.R_below (by (with_reducible repeat (first | apply Kd.R_alloc | apply Kd.R_drewN | apply Kd.R_drew)); exact HO441.out) hb); have n1_ := Aside0.mk (below_step (by repeat (first | (with_reducible first | exact HB.out | apply below_alloc | apply pw_below_drewN | apply below_drew1) | exact HB.out)) hb); clear HO441; clear HB; have HO441 := n0_; have HB := n1_; clear n0_ n1_; (try clear hb); (try clear hb2); (try clear hk); (try clear hi)))
   go_ret3
   exact ⟨by first | rfl | (simp [errW_none, errW_some] <;> rfl) | (simp [*, errW_none, errW_some] <;> rfl), by repeat (first | (with_reducible first | exact HB.out | apply below_alloc | apply pw_below_drewN | apply below_drew1) | exact HB.out)⟩
  ·rw [if_neg c6] at H
   have c6b0 : (t443 == 0) = false := beq_eq_false_iff_ne.mpr c6
   have c6b1 : (t443 != 0) = true := bne_iff_ne.mpr c6
   simp only [Option.some.injEq, Prod.mk.injEq] at H
   obtain ⟨rfl, rfl, rfl⟩ := H
   go_enter Tryz.func10, Tryz.ntmps10
   go_wp2_with (first | ((with_reducible refine gate_callee (f := 22) rfl ?_); refine goesL_ (some 15) rfl rfl Tryz.func22 (by kernel_rfl) rfl #[.slice A0 l0.length c0, .string a1] rfl (by (try simp only [List.map_toArray, List.map_cons, List.map_nil]); first | done | rfl | (simp only [List.length_drop, List.length_take]; rfl)) ?_; (with_reducible refine (rejoinderref05_Formula.calls _ _ l0 a1 t437 t438 t439 _ ?side1 ?side2 A3.out).mono ?_); (case side1 => repeat (first | exact HR0.out | (with_reducible refine Kd.C_alloc ?_ _) | (with_reducible refine Kd.C_drewN ?_ _) | (with_reducible refine Kd.C_drew ?_))); (case side2 => exact HC0.out); rintro e w10 ⟨v440, rfl, ho0, hb⟩; refine ⟨_, rfl, ?_⟩; have n0_ := Aside0.mk (Kd.R_lower ho0 (below_size (by repeat (first | (with_reducible first | exact HB.out | apply below_alloc | apply pw_below_drewN | apply below_drew1) | exact HB.out)))); have n1_ := Aside0.mk (below_step (by repeat (first | (with_reducible first | exact HB.out | apply below_alloc | apply pw_below_drewN | apply below_drew1) | exact HB.out)) hb); clear HB; have HO441 := n0_; have HB := n1_; clear n0_ n1_; (try clear hb); (try clear hb2); (try clear hk); (try clear hi); (try clear ho0); obtain ⟨Ao11, co11, eo11⟩ := Kd.R_slice HO441.out; subst eo11) | ((with_reducible refine gate_callee (f := 6) rfl ?_); refine goesL_ (some 26) rfl rfl Tryz.func6 (by kernel_rfl) rfl #[.slice A0 l0.length c0, .slice Ao11 t437.length co11] rfl (by (try simp only [List.map_toArray, List.map_cons, List.map_nil]); first | done | rfl | (simp only [List.length_drop, List.length_take]; rfl)) ?_; (with_reducible refine (rejoinderref06_Formula.calls _ _ l0 _ _ t437 t442 t443 _ ?side1 ?side2 ?side3 ?side4 A5.out).mono ?_); (case side1 => repeat (first | exact (Kd.C_below HR0.out HB.out) | (with_reducible refine Kd.C_alloc ?_ _) | (with_reducible refine Kd.C_drewN ?_ _) | (with_reducible refine Kd.C_drew ?_))); (case side2 => exact HC0.out); (case side3 => repeat (first | exact (Kd.R_reads' HO441.out).2.2 | (with_reducible refine Kd.C_alloc ?_ _) | (with_reducible refine Kd.C_drewN ?_ _) | (with_reducible refine Kd.C_drew ?_))); (case side4 => exact (Kd.R_reads' HO441.out).2.1); rintro e w12 ⟨rfl, hb⟩; refine ⟨_, rfl, ?_⟩; have n0_ := Aside0.mk (Kd.R_below (by (with_reducible repeat (first | apply Kd.R_alloc | apply Kd.R_drewN | apply Kd.R_drew)); exact HO441.out) hb); have n1_ := Aside0.mk (below_step (by repeat (first | (with_reducible first | exact HB.out | apply below_alloc | apply pw_below_drewN | apply below_drew1) | exact HB.out)) hb); clear HO441; clear HB; have HO441 := n0_; have HB := n1_; clear n0_ n1_; (try clear hb); (try clear hb2); (try clear hk); (try clear hi)))
   go_ret3
   exact ⟨by first | rfl | (simp [errW_none, errW_some] <;> rfl) | (simp [*, errW_none, errW_some] <;> rfl), by repeat (first | (with_reducible first | exact HB.out | apply below_alloc | apply pw_below_drewN | apply below_drew1) | exact HB.out)⟩
 ·rw [if_neg c4] at H
  have c4b0 : (t438 == 0) = false := beq_eq_false_iff_ne.mpr c4
  have c4b1 : (t438 != 0) = true := bne_iff_ne.mpr c4
  simp only [Option.some.injEq, Prod.mk.injEq] at H
  obtain ⟨rfl, rfl, rfl⟩ := H
  go_enter Tryz.func10, Tryz.ntmps10
  go_wp2_with (first | ((with_reducible refine gate_callee (f := 22) rfl ?_); refine goesL_ (some 15) rfl rfl Tryz.func22 (by kernel_rfl) rfl #[.slice A0 l0.length c0, .string a1] rfl (by (try simp only [List.map_toArray, List.map_cons, List.map_nil]); first | done | rfl | (simp only [List.length_drop, List.length_take]; rfl)) ?_; (with_reducible refine (rejoinderref05_Formula.calls _ _ l0 a1 t437 t438 t439 _ ?side1 ?side2 A3.out).mono ?_); (case side1 => repeat (first | exact HR0.out | (with_reducible refine Kd.C_alloc ?_ _) | (with_reducible refine Kd.C_drewN ?_ _) | (with_reducible refine Kd.C_drew ?_))); (case side2 => exact HC0.out); rintro e w13 ⟨v440, rfl, ho0, hb⟩; refine ⟨_, rfl, ?_⟩; have n0_ := Aside0.mk (Kd.R_lower ho0 (below_size (by repeat (first | (with_reducible first | exact HB.out | apply below_alloc | apply pw_below_drewN | apply below_drew1) | exact HB.out)))); have n1_ := Aside0.mk (below_step (by repeat (first | (with_reducible first | exact HB.out | apply below_alloc | apply pw_below_drewN | apply below_drew1) | exact HB.out)) hb); clear HB; have HO441 := n0_; have HB := n1_; clear n0_ n1_; (try clear hb); (try clear hb2); (try clear hk); (try clear hi); (try clear ho0)))
  go_ret3
  exact ⟨by first | rfl | (simp [errW_none, errW_some] <;> rfl) | (simp [*, errW_none, errW_some] <;> rfl), by repeat (first | (with_reducible first | exact HB.out | apply below_alloc | apply pw_below_drewN | apply below_drew1) | exact HB.out)⟩
end Go.Proofs.YtaogoabnidbbpaaGreatDoor.PText
