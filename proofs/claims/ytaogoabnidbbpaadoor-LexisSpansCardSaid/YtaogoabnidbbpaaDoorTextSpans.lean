/- Each word of a text stands where it says, with blanks alone between; the words of their text are the same words: plain Lean. Conditions stand in each law. -/
import Derived.Test.YtaogoabnidbbpaaDoorTextLexer
namespace Go.Proofs.YtaogoabnidbbpaaDoor.PText
open Go.RowKit Go.Proofs.YtaogoabnidbbpaaDoorW.PrintWords Go.Proofs.YtaogoabnidbbpaaDoorW.PrintLast Go.Proofs.YtaogoabnidbbpaaDoorW.PrintMore
set_option linter.unusedVariables false
def blankL (l : Bs) : Bool := l.all fun c => c == 32
def Spans (l : Bs) : Nat → List Wd → Prop
  | at_, [] => at_ ≤ l.length ∧ blankL (l.drop at_) = true
  | at_, w :: ws => ∃ p : Nat, w.f2 = (p : Int) ∧ at_ ≤ p ∧ p + w.f1.size ≤ l.length ∧ blankL ((l.drop at_).take (p - at_)) = true ∧ (l.drop p).take w.f1.size = w.f1.data.toList ∧ sortL w.f1.data.toList = (w.f0, true) ∧ Spans l (p + w.f1.size) ws
theorem blank_more (l : Bs) (a i : Nat) (hai : a ≤ i) (h : blankL ((l.drop a).take (i - a)) = true) (hi : i < l.length) (hc : l[i] = 32) : blankL ((l.drop a).take (i + 1 - a)) = true := by
  have hlt : i - a < (l.drop a).length := by rw [List.length_drop]; omega
  rw [show i + 1 - a = (i - a) + 1 by omega, take_one _ _ hlt]
  unfold blankL at h ⊢
  rw [List.all_append, h]
  have he : (l.drop a)[i - a] = l[i] := by rw [List.getElem_drop]; congr 1; omega
  rw [he, hc]
  rfl
theorem lex_spans (l : Bs) (n : Nat) : ∀ (a i : Nat) (ws : List Wd), a ≤ i → i ≤ l.length → l.length - i ≤ n → blankL ((l.drop a).take (i - a)) = true → lexF n (l.drop i) i = .ok ws → Spans l a ws := by
  induction n with
  | zero =>
    intro a i ws hai hi hn hb h
    have hws : ws = [] := by cases h; rfl
    subst hws
    refine ⟨by omega, ?_⟩
    rw [List.take_of_length_le (by rw [List.length_drop]; omega)] at hb
    exact hb
  | succ n ih =>
    intro a i ws hai hi hn hb h
    by_cases hil : i < l.length
    · have hd := List.drop_eq_getElem_cons hil
      by_cases h32 : l[i] = 32
      · rw [hd] at h
        have h2 : lexF n (l.drop (i + 1)) (i + 1) = .ok ws := by
          have h3 : (if l[i] = 32 then lexF n (l.drop (i + 1)) (i + 1) else _) = Except.ok ws := h
          rw [if_pos h32] at h3
          exact h3
        exact ih a (i + 1) ws (by omega) (by omega) (by omega) (blank_more l a i hai hb hil h32) h2
      · obtain ⟨w, hw⟩ : ∃ w, w = firstL (l.drop i) := ⟨_, rfl⟩
        have hpre := first_pre (l.drop i)
        rw [← hw] at hpre
        have hpl := hpre.length_le
        rw [List.length_drop] at hpl
        have h3 : (if firstL (l.drop i) = [] then Except.error i else match lexF n ((l.drop i).drop (firstL (l.drop i)).length) (i + (firstL (l.drop i)).length) with
            | .ok ws => .ok ((⟨(sortL (firstL (l.drop i))).1, bytesB (firstL (l.drop i)), (i : Int)⟩ : Wd) :: ws)
            | .error e => .error e) = Except.ok ws := by
          rw [hd] at h ⊢
          have h4 : (if l[i] = 32 then _ else _) = Except.ok ws := h
          rw [if_neg h32] at h4
          exact h4
        rw [← hw] at h3
        by_cases hw0 : w = []
        · rw [if_pos hw0] at h3; cases h3
        · rw [if_neg hw0] at h3
          have hw1 : 1 ≤ w.length := by
            rcases w with _ | ⟨x, t⟩
            · exact absurd rfl hw0
            · simp
          have hsort := first_sort (l.drop i) (by rw [← hw]; exact hw0)
          rw [← hw] at hsort
          cases hr : lexF n ((l.drop i).drop w.length) (i + w.length) with
          | error e => rw [hr] at h3; cases h3
          | ok vs =>
            rw [hr] at h3
            have hws : ws = (⟨(sortL w).1, bytesB w, (i : Int)⟩ : Wd) :: vs := by cases h3; rfl
            subst hws
            rw [List.drop_drop] at hr
            refine ⟨i, rfl, hai, by rw [size_bytesB]; omega, hb, ?_, ?_, ?_⟩
            · show (l.drop i).take (bytesB w).size = w
              rw [size_bytesB]
              exact (List.prefix_iff_eq_take.1 hpre).symm
            · show sortL w = ((sortL w).1, true)
              rw [← hsort]
            · show Spans l (i + (bytesB w).size) vs
              rw [size_bytesB]
              exact ih (i + w.length) (i + w.length) vs (Nat.le_refl _) (by omega) (by omega) (by rw [Nat.sub_self]; rfl) hr
    · have hws : ws = [] := by rw [List.drop_of_length_le (by omega)] at h; cases h; rfl
      subst hws
      refine ⟨by omega, ?_⟩
      rw [List.take_of_length_le (by rw [List.length_drop]; omega)] at hb
      exact hb
/-- Words as a lexer makes them. -/
def Good (w : Wd) : Prop := ∃ l : Bs, firstL l = w.f1.data.toList ∧ firstL l ≠ [] ∧ w.f0 = (sortL (firstL l)).1
theorem lex_good (n : Nat) : ∀ (l : Bs) (i : Nat) (ws : List Wd), lexF n l i = .ok ws → ∀ w ∈ ws, Good w := by
  induction n with
  | zero => intro l i ws h; cases h; intro w hw; cases hw
  | succ n ih =>
    intro l i ws h
    cases l with
    | nil => cases h; intro w hw; cases hw
    | cons c t =>
      have h3 : (if c = 32 then lexF n t (i + 1) else if firstL (c :: t) = [] then Except.error i else match lexF n ((c :: t).drop (firstL (c :: t)).length) (i + (firstL (c :: t)).length) with
            | .ok ws => .ok ((⟨(sortL (firstL (c :: t))).1, bytesB (firstL (c :: t)), (i : Int)⟩ : Wd) :: ws)
            | .error e => .error e) = Except.ok ws := h
      by_cases h32 : c = 32
      · rw [if_pos h32] at h3; exact ih _ _ _ h3
      · rw [if_neg h32] at h3
        by_cases hw0 : firstL (c :: t) = []
        · rw [if_pos hw0] at h3; cases h3
        · rw [if_neg hw0] at h3
          cases hr : lexF n ((c :: t).drop (firstL (c :: t)).length) (i + (firstL (c :: t)).length) with
          | error e => rw [hr] at h3; cases h3
          | ok vs =>
            rw [hr] at h3
            have hws : ws = (⟨(sortL (firstL (c :: t))).1, bytesB (firstL (c :: t)), (i : Int)⟩ : Wd) :: vs := by cases h3; rfl
            subst hws
            intro w hw
            rcases List.mem_cons.1 hw with rfl | hw
            · exact ⟨c :: t, rfl, hw0, rfl⟩
            · exact ih _ _ _ hr w hw
set_option maxHeartbeats 4000000 in
theorem sign_again : ∀ w ∈ signs, ∀ r : Bs, (signL (w ++ 32 :: r) = w ∧ headL (w ++ 32 :: r) = []) ∧ (signL w = w ∧ headL w = []) := by
  intro w hw r
  simp only [signs, List.mem_cons, List.not_mem_nil, or_false] at hw
  rcases hw with rfl | rfl | rfl | rfl | rfl | rfl | rfl | rfl | rfl | rfl | rfl | rfl | rfl | rfl | rfl | rfl | rfl <;> refine ⟨⟨?_, ?_⟩, ?_, ?_⟩ <;> kernel_rfl
theorem mem_head (l : Bs) (c : UInt8) (h : c ∈ headL l) : wordB c = true := by
  induction l with
  | nil => cases h
  | cons x t ih =>
    unfold headL at h ih
    rw [List.takeWhile_cons] at h
    split at h
    · rename_i hx
      rcases List.mem_cons.1 h with rfl | h
      · exact hx
      · exact ih h
    · cases h
theorem head_again (l r : Bs) (hr : r = [] ∨ ∃ r', r = 32 :: r') : headL (headL l ++ r) = headL l := by
  have hall : ∀ c ∈ headL l, wordB c = true := by
    intro c hc
    exact mem_head l c hc
  have h2 : headL (headL l ++ r) = headL l ++ headL r := by
    unfold headL at hall ⊢
    rw [List.takeWhile_append_of_pos hall]
  rw [h2]
  rcases hr with rfl | ⟨r', rfl⟩
  · simp [headL]
  · simp [headL, show wordB 32 = false from rfl]
theorem first_again (l r : Bs) (h : firstL l ≠ []) (hr : r = [] ∨ ∃ r', r = 32 :: r') : firstL (firstL l ++ r) = firstL l := by
  rcases first_kind l h with hs | ⟨he, hne, hso⟩
  · obtain ⟨⟨h1, h2⟩, h3, h4⟩ := sign_again _ hs (r.drop 1)
    rcases hr with rfl | ⟨r', rfl⟩
    · rw [List.append_nil]
      show (if headL (firstL l) = [] then signL (firstL l) else _) = _
      rw [if_pos h4, h3]
    · show (if headL (firstL l ++ 32 :: r') = [] then signL (firstL l ++ 32 :: r') else _) = _
      have h2' : headL (firstL l ++ 32 :: r') = [] := h2
      rw [if_pos h2']
      exact h1
  · rw [he]
    have h5 := head_again l r hr
    show (if headL (headL l ++ r) = [] then _ else if (sortL (headL (headL l ++ r))).2 = true then headL (headL l ++ r) else []) = _
    rw [if_neg (by rw [h5]; exact hne), h5, if_pos hso]
theorem first_not_blank (l : Bs) (h : firstL l ≠ []) : ∀ r, ∃ c t, firstL l ++ r = c :: t ∧ c ≠ 32 := by
  intro r
  rcases first_kind l h with hs | ⟨he, hne, hso⟩
  · revert hs
    generalize firstL l = w
    intro hs
    simp only [signs, List.mem_cons, List.not_mem_nil, or_false] at hs
    rcases hs with rfl | rfl | rfl | rfl | rfl | rfl | rfl | rfl | rfl | rfl | rfl | rfl | rfl | rfl | rfl | rfl | rfl <;> exact ⟨_, _, rfl, by decide⟩
  · rw [he]
    cases hl : headL l with
    | nil => exact absurd hl hne
    | cons c t =>
      refine ⟨c, t ++ r, rfl, ?_⟩
      have : wordB c = true := mem_head l c (by rw [hl]; exact List.mem_cons_self)
      rintro rfl
      cases this
def tailJ (ws : List Wd) : Bs := (ws.map (fun w => 32 :: w.f1.data.toList)).flatten
theorem tailJ_kind (ws : List Wd) : tailJ ws = [] ∨ ∃ r', tailJ ws = 32 :: r' := by
  cases ws with
  | nil => exact .inl rfl
  | cons w ws => exact .inr ⟨_, rfl⟩
def key (w : Wd) : Int × ByteArray := (w.f0, w.f1)
theorem step_again (w : Wd) (ws : List Wd) (hg : Good w) (n i : Nat) (hn : (w.f1.data.toList ++ tailJ ws).length ≤ n)
    (next : ∀ m, (tailJ ws).length ≤ m → ∃ ms, lexF m (tailJ ws) (i + w.f1.size) = .ok ms ∧ ms.map key = ws.map key) :
    ∃ ms, lexF n (w.f1.data.toList ++ tailJ ws) i = .ok ms ∧ ms.map key = (w :: ws).map key := by
  obtain ⟨l, h1, h2, h3⟩ := hg
  have hsz := size_eq w.f1
  rw [← h1] at hn ⊢
  obtain ⟨c, t, hc, hne⟩ := first_not_blank l h2 (tailJ ws)
  have hag := first_again l (tailJ ws) h2 (tailJ_kind ws)
  have hlen : 1 ≤ (firstL l).length := by
    cases hf : firstL l with
    | nil => exact absurd hf h2
    | cons x y => simp
  rw [List.length_append] at hn
  obtain ⟨m, rfl⟩ : ∃ m, n = m + 1 := ⟨n - 1, by omega⟩
  obtain ⟨ms, hm, hk⟩ := next m (by omega)
  have hdrop : (firstL l ++ tailJ ws).drop (firstL l).length = tailJ ws := by simp
  have hsz2 : i + (firstL l).length = i + w.f1.size := by rw [h1]; omega
  refine ⟨⟨(sortL (firstL l)).1, bytesB (firstL l), (i : Int)⟩ :: ms, ?_, ?_⟩
  · have h4 : lexF (m + 1) (firstL l ++ tailJ ws) i = (if c = 32 then lexF m t (i + 1) else if firstL (firstL l ++ tailJ ws) = [] then Except.error i else match lexF m ((firstL l ++ tailJ ws).drop (firstL (firstL l ++ tailJ ws)).length) (i + (firstL (firstL l ++ tailJ ws)).length) with
            | .ok ws' => .ok ((⟨(sortL (firstL (firstL l ++ tailJ ws))).1, bytesB (firstL (firstL l ++ tailJ ws)), (i : Int)⟩ : Wd) :: ws')
            | .error e => .error e) := by rw [hc]; rfl
    rw [h4, if_neg hne, hag, if_neg h2, hdrop, hsz2, hm]
  · rw [List.map_cons, List.map_cons, hk]
    congr 1
    unfold key
    rw [h3]
    congr 1
    show bytesB (firstL l) = w.f1
    rw [h1]
    rfl
theorem tail_again (ws : List Wd) : (∀ w ∈ ws, Good w) → ∀ n i, (tailJ ws).length ≤ n → ∃ ms, lexF n (tailJ ws) i = .ok ms ∧ ms.map key = ws.map key := by
  induction ws with
  | nil =>
    intro _ n i _
    refine ⟨[], ?_, rfl⟩
    cases n <;> rfl
  | cons w ws ih =>
    intro hg n i hn
    have he : tailJ (w :: ws) = 32 :: (w.f1.data.toList ++ tailJ ws) := rfl
    rw [he] at hn ⊢
    rw [List.length_cons] at hn
    obtain ⟨m, rfl⟩ : ∃ m, n = m + 1 := ⟨n - 1, by omega⟩
    exact step_again w ws (hg w List.mem_cons_self) m (i + 1) (by omega) (fun k hk => ih (fun x hx => hg x (List.mem_cons_of_mem _ hx)) k _ hk)
theorem join_tail (w : Wd) (ws : List Wd) : joinL (textsOf (w :: ws)) = w.f1.data.toList ++ tailJ ws := by
  unfold joinL textsOf tailJ
  rw [List.map_cons, List.map_cons, List.flatten_cons, List.map_map]
  rfl
theorem join_again (ws : List Wd) (hg : ∀ w ∈ ws, Good w) (n : Nat) (hn : (joinL (textsOf ws)).length ≤ n) : ∃ ms, lexF n (joinL (textsOf ws)) 0 = .ok ms ∧ ms.map key = ws.map key := by
  cases ws with
  | nil => refine ⟨[], ?_, rfl⟩; cases n <;> rfl
  | cons w ws =>
    rw [join_tail] at hn ⊢
    exact step_again w ws (hg w List.mem_cons_self) n 0 hn (fun k hk => tail_again ws (fun x hx => hg x (List.mem_cons_of_mem _ hx)) k _ hk)
theorem spans_len (l : Bs) : ∀ (ws : List Wd) (a : Nat), a ≤ l.length → (∀ w ∈ ws, Good w) → Spans l a ws → (tailJ ws).length ≤ 2 * (l.length - a) := by
  intro ws
  induction ws with
  | nil => intro a ha _ _; exact Nat.zero_le _
  | cons w ws ih =>
    intro a ha hg h
    obtain ⟨p, _, h1, h2, _, _, _, h3⟩ := h
    have hn := ih (p + w.f1.size) h2 (fun x hx => hg x (List.mem_cons_of_mem _ hx)) h3
    have hsz := size_eq w.f1
    obtain ⟨l', h4, h5, _⟩ := hg w List.mem_cons_self
    have hlen : 1 ≤ (firstL l').length := by
      cases hf : firstL l' with
      | nil => exact absurd hf h5
      | cons x y => simp
    rw [h4] at hlen
    have he : tailJ (w :: ws) = 32 :: (w.f1.data.toList ++ tailJ ws) := rfl
    rw [he, List.length_cons, List.length_append]
    omega
theorem blank_loop (s : ByteArray) (hs : s.size ≤ 9223372036854775806) (d : Nat) : ∀ i : Nat, i + d = s.size → Ev (fun k => rejoinderlaw04_blank.l0 k s i) (blankL (s.data.toList.drop i)) := by
  have hsz := size_eq s
  induction d with
  | zero =>
    intro i hi
    refine Ev.step (f := fun _ => some true) (fun k => ?_) (by rw [List.drop_of_length_le (by omega)]; exact Ev.now _)
    simp only [rejoinderlaw04_blank.l0]
    rw [if_neg (by omega)]
  | succ d ih =>
    intro i hi
    have hl : i < s.data.toList.length := by omega
    have hd := List.drop_eq_getElem_cons hl
    have hb := bt_of s i (by omega)
    obtain ⟨c, hc⟩ : ∃ c, c = s.data.toList[i] := ⟨_, rfl⟩
    rw [← hc] at hb hd
    have hw : wrap64 ((i : Int) + 1) = ((i + 1 : Nat) : Int) := by unfold wrap64; omega
    by_cases h32 : c = 32
    · have hv : blankL (s.data.toList.drop i) = blankL (s.data.toList.drop (i + 1)) := by rw [hd, h32]; rfl
      rw [hv]
      refine Ev.step (fun k => ?_) (ih (i + 1) (by omega))
      simp only [rejoinderlaw04_blank.l0]
      rw [if_pos (by omega), if_pos (by omega), if_pos (by rw [hb, h32]; rfl), hw]
    · have hv : blankL (s.data.toList.drop i) = false := by
        rw [hd]
        unfold blankL
        rw [List.all_cons, beq_eq_false_iff_ne.2 h32]
        rfl
      have hb32 : bt s i ≠ 32 := by
        rw [hb]
        intro e
        apply h32
        apply UInt8.toNat_inj.1
        have : (32 : UInt8).toNat = 32 := rfl
        omega
      rw [hv]
      refine Ev.step (f := fun _ => some false) (fun k => ?_) (Ev.now _)
      simp only [rejoinderlaw04_blank.l0]
      rw [if_pos (by omega), if_pos (by omega), if_neg hb32]
end Go.Proofs.YtaogoabnidbbpaaDoor.PText
