/- The words of a text as a plain function; what the printed lexis.Words computes is that; words stand where they say, and the words of their text are the same. Conditions stand in each law. -/
import Derived.Test.YtaogoabnidbbpaaDoorPTextx5b
import Derived.Test.YtaogoabnidbbpaaDoorTextJoin
namespace Go.Proofs.YtaogoabnidbbpaaDoor.PText
open Go.RowKit Go.Proofs.YtaogoabnidbbpaaDoorW.PrintWords Go.Proofs.YtaogoabnidbbpaaDoorW.PrintLast Go.Proofs.YtaogoabnidbbpaaDoorW.PrintMore
set_option linter.unusedVariables false
abbrev Wd := S31
def lexF : Nat → Bs → Nat → Except Nat (List Wd)
  | 0, _, _ => .ok []
  | _ + 1, [], _ => .ok []
  | n + 1, c :: t, i => if c = 32 then lexF n t (i + 1) else if firstL (c :: t) = [] then .error i else
      match lexF n ((c :: t).drop (firstL (c :: t)).length) (i + (firstL (c :: t)).length) with
      | .ok ws => .ok (⟨(sortL (firstL (c :: t))).1, bytesB (firstL (c :: t)), (i : Int)⟩ :: ws)
      | .error e => .error e
def resF (acc : List Wd) : Except Nat (List Wd) → List Wd × Int × Int
  | .ok ws => (acc ++ ws, 0, 0)
  | .error e => ([], 140, (e : Int))
theorem lexF_cons (n : Nat) (c : UInt8) (t : Bs) (i : Nat) : lexF (n + 1) (c :: t) i = if c = 32 then lexF n t (i + 1) else if firstL (c :: t) = [] then .error i else
      match lexF n ((c :: t).drop (firstL (c :: t)).length) (i + (firstL (c :: t)).length) with
      | .ok ws => .ok (⟨(sortL (firstL (c :: t))).1, bytesB (firstL (c :: t)), (i : Int)⟩ :: ws)
      | .error e => .error e := by rw [lexF]
theorem lexF_nil (n : Nat) (i : Nat) : lexF n [] i = .ok [] := by cases n <;> rw [lexF]
theorem head_pre (l : Bs) : headL l <+: l := List.takeWhile_prefix _
theorem sign_fold (l : Bs) : ∀ (xs : List Bs) (b : Bs), (b = [] ∨ b ∈ signs ∧ b <+: l) → (∀ x ∈ xs, x ∈ signs) → (xs.foldl (longer l) b = [] ∨ xs.foldl (longer l) b ∈ signs ∧ xs.foldl (longer l) b <+: l) := by
  intro xs
  induction xs with
  | nil => intro b hb _; exact hb
  | cons x xs ih =>
    intro b hb hx
    rw [List.foldl_cons]
    refine ih _ ?_ (fun y hy => hx y (List.mem_cons_of_mem _ hy))
    unfold longer
    split
    · exact hb
    · split
      · rename_i h; exact .inr ⟨hx x List.mem_cons_self, List.isPrefixOf_iff_prefix.1 h⟩
      · exact hb
theorem sign_ok (l : Bs) : signL l = [] ∨ signL l ∈ signs ∧ signL l <+: l := sign_fold l signs [] (.inl rfl) (fun _ h => h)
theorem first_pre (l : Bs) : firstL l <+: l := by
  unfold firstL
  split
  · rcases sign_ok l with h | h
    · rw [h]; exact List.nil_prefix
    · exact h.2
  · split
    · exact head_pre l
    · exact List.nil_prefix
theorem sort_sign (w : Bs) (h : w ∈ signs) : sortL w = (0, true) := by
  unfold sortL
  rw [if_pos (by rw [List.contains_iff_mem]; exact h)]
theorem first_sort (l : Bs) (h : firstL l ≠ []) : (sortL (firstL l)).2 = true := by
  unfold firstL at h ⊢
  split
  · rename_i h1
    rw [if_pos h1] at h
    rcases sign_ok l with h2 | h2
    · exact absurd h2 h
    · rw [sort_sign _ h2.1]
  · rename_i h1
    rw [if_neg h1] at h
    split
    · rename_i h2; exact h2
    · rename_i h2; rw [if_neg h2] at h; exact absurd rfl h
/-- The two kinds of words. -/
theorem first_kind (l : Bs) (h : firstL l ≠ []) : (firstL l ∈ signs) ∨ (firstL l = headL l ∧ headL l ≠ [] ∧ (sortL (headL l)).2 = true) := by
  unfold firstL at h ⊢
  split
  · rename_i h1
    rw [if_pos h1] at h
    rcases sign_ok l with h2 | h2
    · exact absurd h2 h
    · exact .inl h2.1
  · rename_i h1
    rw [if_neg h1] at h
    split
    · rename_i h2; exact .inr ⟨rfl, h1, h2⟩
    · rename_i h2; rw [if_neg h2] at h; exact absurd rfl h
theorem drop_extract (s : ByteArray) (i : Nat) (h : i ≤ s.size) : (s.extract i s.size).data.toList = s.data.toList.drop i := by
  have h1 := size_eq s
  rw [ByteArray.data_extract, Array.toList_extract]
  simp [List.extract]
  rw [List.take_of_length_le (by rw [List.length_drop]; omega)]
attribute [local irreducible] firstL sortL
theorem words_loop (s : ByteArray) (hs : s.size ≤ 4096) (n : Nat) : ∀ (i : Nat) (acc : List Wd), i ≤ s.size → s.size - i ≤ n → acc.length ≤ i → Ev (fun k => lexis_Words.l0 k s acc i) (resF acc (lexF n (s.data.toList.drop i) i)) := by
  have hsz := size_eq s
  induction n with
  | zero =>
    intro i acc hi hn ha
    refine Ev.step (f := fun _ => some (acc, 0, 0)) (fun k => ?_) (by rw [show lexF 0 (s.data.toList.drop i) i = .ok [] by rw [lexF]]; rw [show resF acc (.ok []) = (acc ++ [], 0, 0) from rfl, List.append_nil]; exact Ev.now _)
    simp only [lexis_Words.l0]
    rw [if_neg (by omega)]
  | succ n ih =>
    intro i acc hi hn ha
    by_cases hil : i < s.size
    · have hl : i < s.data.toList.length := by omega
      have hd := List.drop_eq_getElem_cons hl
      obtain ⟨c, hc⟩ : ∃ c, c = s.data.toList[i] := ⟨_, rfl⟩
      have hb := bt_of s i hil
      rw [← hc] at hb hd
      by_cases h32 : c = 32
      · have hw : wrap64 ((i : Int) + 1) = ((i + 1 : Nat) : Int) := by unfold wrap64; omega
        have hv : lexF (n + 1) (s.data.toList.drop i) i = lexF n (s.data.toList.drop (i + 1)) (i + 1) := by rw [hd, lexF_cons, if_pos h32]
        rw [hv]
        refine Ev.step (fun k => ?_) (ih (i + 1) acc (by omega) (by omega) (by omega))
        simp only [lexis_Words.l0]
        rw [if_pos (by omega), if_pos (by omega), if_pos (by rw [hb, h32]; rfl), hw]
      · have hb32 : ¬ bt s i = 32 := by
          rw [hb]
          intro e
          apply h32
          apply UInt8.toNat_inj.1
          have : (32 : UInt8).toNat = 32 := rfl
          omega
        obtain ⟨w, hw⟩ : ∃ w, w = firstL (s.data.toList.drop i) := ⟨_, rfl⟩
        have hf : lexis_first.f (s.extract ((i : Int)).toNat s.size) = some (bytesB w) := by
          unfold lexis_first.f
          rw [Int.toNat_natCast, drop_extract s i hi, hw]
        have htl : (bytesB w).toList = w := bytes_eq w
        by_cases hw0 : w = []
        · have hv : lexF (n + 1) (s.data.toList.drop i) i = .error i := by
            rw [hd] at hw ⊢
            rw [lexF_cons, if_neg h32, if_pos (by rw [← hw]; exact hw0)]
          rw [hv]
          refine Ev.step (f := fun _ => some (([] : List Wd), 140, (i : Int))) (fun k => ?_) (Ev.now _)
          simp only [lexis_Words.l0]
          rw [if_pos (by omega), if_pos (by omega), if_neg hb32, if_pos (by omega), hf]
          simp only [Option.bind_some]
          rw [if_pos (by rw [htl]; exact hw0)]
        · have hp := first_pre (s.data.toList.drop i)
          rw [← hw] at hp
          have hpl := hp.length_le
          rw [List.length_drop] at hpl
          have hw1 : 1 ≤ w.length := by
            rcases w with _ | ⟨x, t⟩
            · exact absurd rfl hw0
            · simp
          have hwr : Aside0 (wrap64 ((i : Int) + ((bytesB w).size : Int)) = ((i + w.length : Nat) : Int)) := ⟨by rw [size_bytesB]; unfold wrap64; omega⟩
          have hv : resF acc (lexF (n + 1) (s.data.toList.drop i) i) = resF (acc ++ [⟨(sortL w).1, bytesB w, (i : Int)⟩]) (lexF n (s.data.toList.drop (i + w.length)) (i + w.length)) := by
            have h5 : s.data.toList.drop (i + w.length) = (s.data.toList.drop i).drop w.length := by rw [List.drop_drop]
            rw [h5]
            rw [hd] at hw ⊢
            rw [lexF_cons, if_neg h32, if_neg (by rw [← hw]; exact hw0), ← hw]
            cases lexF n (List.drop w.length (c :: s.data.toList.drop (i + 1))) (i + w.length) with
            | ok ws => simp [resF]
            | error e => rfl
          rw [hv]
          have hsE := sort_ev (bytesB w)
          rw [show (bytesB w).data.toList = w from rfl] at hsE
          obtain ⟨nxt, hnxt⟩ : ∃ nxt : Wd → List Wd, nxt = fun x => acc ++ [x] := ⟨_, rfl⟩
          have hstep : ∀ k, lexis_Words.l0 (k + 1) s acc i = (lexis_Sort.f k (bytesB w)).bind fun p => lexis_Words.l0 k s (nxt ⟨p.1, bytesB w, (i : Int)⟩) ((i + w.length : Nat) : Int) := by
            intro k
            have hac : acc.length < 4398046511104 := by omega
            have c1 : (i : Int) < (s.size : Int) := by omega
            have c2 : (0 : Int) ≤ (i : Int) := by omega
            have c3 : (i : Int) ≤ (s.size : Int) := by omega
            have c4 : ¬ (bytesB w).toList = [] := by rw [htl]; exact hw0
            simp only [lexis_Words.l0, if_pos c1, if_pos c2, if_neg hb32, if_pos c3, if_pos hac, hf, Option.bind_some, if_neg c4, hwr.out, hnxt]
          have hgo := ih (i + w.length) (nxt ⟨(sortL w).1, bytesB w, (i : Int)⟩) (by omega) (by omega) (by rw [hnxt]; show (acc ++ [_]).length ≤ _; rw [List.length_append, List.length_cons, List.length_nil]; omega)
          have hfin : Ev (fun k => (lexis_Sort.f k (bytesB w)).bind fun p => lexis_Words.l0 k s (nxt ⟨p.1, bytesB w, (i : Int)⟩) ((i + w.length : Nat) : Int)) (resF (nxt ⟨(sortL w).1, bytesB w, (i : Int)⟩) (lexF n (s.data.toList.drop (i + w.length)) (i + w.length))) :=
            Ev.bind (f := fun k p => lexis_Words.l0 k s (nxt ⟨p.1, bytesB w, (i : Int)⟩) ((i + w.length : Nat) : Int)) hsE hgo
          rw [hnxt] at hfin hstep
          exact Ev.step hstep hfin
    · have hv : lexF (n + 1) (s.data.toList.drop i) i = .ok [] := by rw [List.drop_of_length_le (by omega), lexF_nil]
      rw [hv]
      refine Ev.step (f := fun _ => some (acc, 0, 0)) (fun k => ?_) (by rw [show resF acc (.ok []) = (acc ++ [], 0, 0) from rfl, List.append_nil]; exact Ev.now _)
      simp only [lexis_Words.l0]
      rw [if_neg (by omega)]
/-- The words of a text. -/
def wordsL (l : Bs) : List Wd × Int × Int := if l.length ≤ 4096 then resF [] (lexF l.length l 0) else ([], 3, -1)
theorem words_ev (s : ByteArray) : Ev (fun k => lexis_Words.f k s) (wordsL s.data.toList) := by
  have hsz := size_eq s
  unfold wordsL
  by_cases h : s.data.toList.length ≤ 4096
  · rw [if_pos h]
    refine Ev.congr (f := fun k => lexis_Words.l0 k s [] ((0 : Nat) : Int)) (fun k => ?_) (by rw [hsz]; exact words_loop s (by omega) s.size 0 [] (Nat.zero_le _) (by omega) (Nat.zero_le _))
    unfold lexis_Words.f
    rw [if_neg (by omega)]
    rfl
  · rw [if_neg h]
    refine Ev.congr (f := fun _ => some (([] : List Wd), 3, -1)) (fun k => ?_) (Ev.now _)
    unfold lexis_Words.f
    rw [if_pos (by omega)]
end Go.Proofs.YtaogoabnidbbpaaDoor.PText
