/- Texts of this work merged into one file, what the law does not need left out: TextLexer; TextParser. Conditions stand in each law. -/
import Derived.Below
import Derived.Deep.Draws
import Derived.Deep.AppendLies
import Derived.Maps.AppendAt
import Derived.OwnWalk
import Derived.Laws.BytesArg
import Derived.Laws.MakeOwn
import Derived.Laws.OwnMore
import Derived.Deep.OwnRows
import Derived.Tactics
import Derived.Lib.ConvBytes
import Derived.Laws.Slices
import Derived.WalkKit
import Derived.KernelRfl
import Derived.RowKit3
import Derived.Deep.LoopGhost
import Derived.Deep.QuietTactic
import Derived.BigQuiet
import Derived.WideLaws
import Derived.Deep.DeepCutAuto
import Derived.Deep.CutBlock
import Derived.Deep.RegionHeld3
import Derived.Laws.Rows
import Derived.Lib.AppendStr
import Derived.ArgAppend
import Derived.Laws.IdiomCopy
import Derived.RowKit
import Derived.OrdersHeld
import Derived.Laws.BitsLemmas
import Derived.Laws.StructEq
import Derived.Test.YtaogoabnidbbpaaDoorProg
import Derived.Shelf.Strings.Builder1
import Derived.Shelf.Strings.BuilderF
import Derived.Shelf.Strings.BuilderK
import Derived.Shelf.Strings.Fields
import Derived.Lib.SmallJoins
import Derived.BigCall
import Derived.WalkMore
import Derived.Lib.OthersKept
import Derived.Lib.FrozenHead
import Derived.Test.YtaogoabnidbbpaaDoorSf1
import Derived.Test.YtaogoabnidbbpaaDoorSf2
import Derived.Test.YtaogoabnidbbpaaDoorSf3
import Derived.Test.YtaogoabnidbbpaaDoorSf4
import Derived.Test.YtaogoabnidbbpaaDoorSf5
import Derived.Test.YtaogoabnidbbpaaDoorSf6
import Derived.Test.YtaogoabnidbbpaaDoorSf7
import Derived.Test.YtaogoabnidbbpaaDoorSf8
import Derived.Test.YtaogoabnidbbpaaDoorSf9
import Derived.Test.YtaogoabnidbbpaaDoorSf10
/-! TextLexer -/
namespace Go.Proofs.YtaogoabnidbbpaaDoor.PText
open Go.RowKit Go.Proofs.YtaogoabnidbbpaaDoorW.PrintWords Go.Proofs.YtaogoabnidbbpaaDoorW.PrintLast Go.Proofs.YtaogoabnidbbpaaDoorW.PrintMore
set_option linter.unusedVariables false
abbrev Wd := S31
def lexF : Nat → Bs → Nat → Except Nat (List Wd)
  | 0, _, _ => .ok []
  | _ + 1, [], _ => .ok []
  | n + 1, c :: t, i => if c = 32 then lexF n t (i + 1) else if firstL (c :: t) = [] then .error i else
      match lexF n ((c :: t).drop (firstL (c :: t)).length) (i + (firstL (c :: t)).length) with
      | .ok ws => .ok (⟨(sortL (firstL (c :: t))).1, bytesB (firstL (c :: t)), (i : Int)⟩ :: ws)
      | .error e => .error e
def resF (acc : List Wd) : Except Nat (List Wd) → List Wd × Int × Int
  | .ok ws => (acc ++ ws, 0, 0)
  | .error e => ([], 140, (e : Int))
theorem lexF_cons (n : Nat) (c : UInt8) (t : Bs) (i : Nat) : lexF (n + 1) (c :: t) i = if c = 32 then lexF n t (i + 1) else if firstL (c :: t) = [] then .error i else
      match lexF n ((c :: t).drop (firstL (c :: t)).length) (i + (firstL (c :: t)).length) with
      | .ok ws => .ok (⟨(sortL (firstL (c :: t))).1, bytesB (firstL (c :: t)), (i : Int)⟩ :: ws)
      | .error e => .error e := by rw [lexF]
theorem lexF_nil (n : Nat) (i : Nat) : lexF n [] i = .ok [] := by cases n <;> rw [lexF]
theorem head_pre (l : Bs) : headL l <+: l := List.takeWhile_prefix _
theorem sign_fold (l : Bs) : ∀ (xs : List Bs) (b : Bs), (b = [] ∨ b ∈ signs ∧ b <+: l) → (∀ x ∈ xs, x ∈ signs) → (xs.foldl (longer l) b = [] ∨ xs.foldl (longer l) b ∈ signs ∧ xs.foldl (longer l) b <+: l) := by
  intro xs
  induction xs with
  | nil => intro b hb _; exact hb
  | cons x xs ih =>
    intro b hb hx
    rw [List.foldl_cons]
    refine ih _ ?_ (fun y hy => hx y (List.mem_cons_of_mem _ hy))
    unfold longer
    split
    · exact hb
    · split
      · rename_i h; exact .inr ⟨hx x List.mem_cons_self, List.isPrefixOf_iff_prefix.1 h⟩
      · exact hb
theorem sign_ok (l : Bs) : signL l = [] ∨ signL l ∈ signs ∧ signL l <+: l := sign_fold l signs [] (.inl rfl) (fun _ h => h)
theorem first_pre (l : Bs) : firstL l <+: l := by
  unfold firstL
  split
  · rcases sign_ok l with h | h
    · rw [h]; exact List.nil_prefix
    · exact h.2
  · split
    · exact head_pre l
    · exact List.nil_prefix
theorem drop_extract (s : ByteArray) (i : Nat) (h : i ≤ s.size) : (s.extract i s.size).data.toList = s.data.toList.drop i := by
  have h1 := size_eq s
  rw [ByteArray.data_extract, Array.toList_extract]
  simp [List.extract]
  rw [List.take_of_length_le (by rw [List.length_drop]; omega)]
attribute [local irreducible] firstL sortL
theorem words_loop (s : ByteArray) (hs : s.size ≤ 4096) (n : Nat) : ∀ (i : Nat) (acc : List Wd), i ≤ s.size → s.size - i ≤ n → acc.length ≤ i → Ev (fun k => lexis_Words.l0 k s acc i) (resF acc (lexF n (s.data.toList.drop i) i)) := by
  have hsz := size_eq s
  induction n with
  | zero =>
    intro i acc hi hn ha
    refine Ev.step (f := fun _ => some (acc, 0, 0)) (fun k => ?_) (by rw [show lexF 0 (s.data.toList.drop i) i = .ok [] by rw [lexF]]; rw [show resF acc (.ok []) = (acc ++ [], 0, 0) from rfl, List.append_nil]; exact Ev.now _)
    simp only [lexis_Words.l0]
    rw [if_neg (by omega)]
  | succ n ih =>
    intro i acc hi hn ha
    by_cases hil : i < s.size
    · have hl : i < s.data.toList.length := by omega
      have hd := List.drop_eq_getElem_cons hl
      obtain ⟨c, hc⟩ : ∃ c, c = s.data.toList[i] := ⟨_, rfl⟩
      have hb := bt_of s i hil
      rw [← hc] at hb hd
      by_cases h32 : c = 32
      · have hw : wrap64 ((i : Int) + 1) = ((i + 1 : Nat) : Int) := by unfold wrap64; omega
        have hv : lexF (n + 1) (s.data.toList.drop i) i = lexF n (s.data.toList.drop (i + 1)) (i + 1) := by rw [hd, lexF_cons, if_pos h32]
        rw [hv]
        refine Ev.step (fun k => ?_) (ih (i + 1) acc (by omega) (by omega) (by omega))
        simp only [lexis_Words.l0]
        rw [if_pos (by omega), if_pos (by omega), if_pos (by rw [hb, h32]; rfl), hw]
      · have hb32 : ¬ bt s i = 32 := by
          rw [hb]
          intro e
          apply h32
          apply UInt8.toNat_inj.1
          have : (32 : UInt8).toNat = 32 := rfl
          omega
        obtain ⟨w, hw⟩ : ∃ w, w = firstL (s.data.toList.drop i) := ⟨_, rfl⟩
        have hf : lexis_first.f (s.extract ((i : Int)).toNat s.size) = some (bytesB w) := by
          unfold lexis_first.f
          rw [Int.toNat_natCast, drop_extract s i hi, hw]
        have htl : (bytesB w).toList = w := bytes_eq w
        by_cases hw0 : w = []
        · have hv : lexF (n + 1) (s.data.toList.drop i) i = .error i := by
            rw [hd] at hw ⊢
            rw [lexF_cons, if_neg h32, if_pos (by rw [← hw]; exact hw0)]
          rw [hv]
          refine Ev.step (f := fun _ => some (([] : List Wd), 140, (i : Int))) (fun k => ?_) (Ev.now _)
          simp only [lexis_Words.l0]
          rw [if_pos (by omega), if_pos (by omega), if_neg hb32, if_pos (by omega), hf]
          simp only [Option.bind_some]
          rw [if_pos (by rw [htl]; exact hw0)]
        · have hp := first_pre (s.data.toList.drop i)
          rw [← hw] at hp
          have hpl := hp.length_le
          rw [List.length_drop] at hpl
          have hw1 : 1 ≤ w.length := by
            rcases w with _ | ⟨x, t⟩
            · exact absurd rfl hw0
            · simp
          have hwr : Aside0 (wrap64 ((i : Int) + ((bytesB w).size : Int)) = ((i + w.length : Nat) : Int)) := ⟨by rw [size_bytesB]; unfold wrap64; omega⟩
          have hv : resF acc (lexF (n + 1) (s.data.toList.drop i) i) = resF (acc ++ [⟨(sortL w).1, bytesB w, (i : Int)⟩]) (lexF n (s.data.toList.drop (i + w.length)) (i + w.length)) := by
            have h5 : s.data.toList.drop (i + w.length) = (s.data.toList.drop i).drop w.length := by rw [List.drop_drop]
            rw [h5]
            rw [hd] at hw ⊢
            rw [lexF_cons, if_neg h32, if_neg (by rw [← hw]; exact hw0), ← hw]
            cases lexF n (List.drop w.length (c :: s.data.toList.drop (i + 1))) (i + w.length) with
            | ok ws => simp [resF]
            | error e => rfl
          rw [hv]
          have hsE := sort_ev (bytesB w)
          rw [show (bytesB w).data.toList = w from rfl] at hsE
          obtain ⟨nxt, hnxt⟩ : ∃ nxt : Wd → List Wd, nxt = fun x => acc ++ [x] := ⟨_, rfl⟩
          have hstep : ∀ k, lexis_Words.l0 (k + 1) s acc i = (lexis_Sort.f k (bytesB w)).bind fun p => lexis_Words.l0 k s (nxt ⟨p.1, bytesB w, (i : Int)⟩) ((i + w.length : Nat) : Int) := by
            intro k
            have hac : acc.length < 4398046511104 := by omega
            have c1 : (i : Int) < (s.size : Int) := by omega
            have c2 : (0 : Int) ≤ (i : Int) := by omega
            have c3 : (i : Int) ≤ (s.size : Int) := by omega
            have c4 : ¬ (bytesB w).toList = [] := by rw [htl]; exact hw0
            simp only [lexis_Words.l0, if_pos c1, if_pos c2, if_neg hb32, if_pos c3, if_pos hac, hf, Option.bind_some, if_neg c4, hwr.out, hnxt]
          have hgo := ih (i + w.length) (nxt ⟨(sortL w).1, bytesB w, (i : Int)⟩) (by omega) (by omega) (by rw [hnxt]; show (acc ++ [_]).length ≤ _; rw [List.length_append, List.length_cons, List.length_nil]; omega)
          have hfin : Ev (fun k => (lexis_Sort.f k (bytesB w)).bind fun p => lexis_Words.l0 k s (nxt ⟨p.1, bytesB w, (i : Int)⟩) ((i + w.length : Nat) : Int)) (resF (nxt ⟨(sortL w).1, bytesB w, (i : Int)⟩) (lexF n (s.data.toList.drop (i + w.length)) (i + w.length))) :=
            Ev.bind (f := fun k p => lexis_Words.l0 k s (nxt ⟨p.1, bytesB w, (i : Int)⟩) ((i + w.length : Nat) : Int)) hsE hgo
          rw [hnxt] at hfin hstep
          exact Ev.step hstep hfin
    · have hv : lexF (n + 1) (s.data.toList.drop i) i = .ok [] := by rw [List.drop_of_length_le (by omega), lexF_nil]
      rw [hv]
      refine Ev.step (f := fun _ => some (acc, 0, 0)) (fun k => ?_) (by rw [show resF acc (.ok []) = (acc ++ [], 0, 0) from rfl, List.append_nil]; exact Ev.now _)
      simp only [lexis_Words.l0]
      rw [if_neg (by omega)]
/-- The words of a text. -/
def wordsL (l : Bs) : List Wd × Int × Int := if l.length ≤ 4096 then resF [] (lexF l.length l 0) else ([], 3, -1)
theorem words_ev (s : ByteArray) : Ev (fun k => lexis_Words.f k s) (wordsL s.data.toList) := by
  have hsz := size_eq s
  unfold wordsL
  by_cases h : s.data.toList.length ≤ 4096
  · rw [if_pos h]
    refine Ev.congr (f := fun k => lexis_Words.l0 k s [] ((0 : Nat) : Int)) (fun k => ?_) (by rw [hsz]; exact words_loop s (by omega) s.size 0 [] (Nat.zero_le _) (by omega) (Nat.zero_le _))
    unfold lexis_Words.f
    rw [if_neg (by omega)]
    rfl
  · rw [if_neg h]
    refine Ev.congr (f := fun _ => some (([] : List Wd), 3, -1)) (fun k => ?_) (Ev.now _)
    unfold lexis_Words.f
    rw [if_pos (by omega)]
end Go.Proofs.YtaogoabnidbbpaaDoor.PText
/-! TextParser -/
namespace Go.Proofs.YtaogoabnidbbpaaDoor.PText
open Go.RowKit Go.Proofs.YtaogoabnidbbpaaDoorW.PrintWords Go.Proofs.YtaogoabnidbbpaaDoorW.PrintLast Go.Proofs.YtaogoabnidbbpaaDoorW.PrintMore
set_option linter.unusedVariables false
abbrev Tk := S55
/-- The reader's methods, and the loops inside them. -/
inductive Nt where
  | iff | imp | or | and | til | unary | atom | plus | seq | star | bare
  | moreIff | moreOr | moreAnd | morePlus | moreSeq | stars
/-- The words that are left, the tokens that are out. -/
structure Rd where
  ws : List Wd
  out : List Tk
/-- How a method ends: it goes on, or it stops with an error and a place. -/
inductive End where
  | go (r : Rd)
  | stop (e at_ : Int)
def Rd.next (r : Rd) : Bs := match r.ws with | [] => [] | w :: _ => w.f1.data.toList
def Rd.pop (r : Rd) : Rd := ⟨r.ws.drop 1, r.out⟩
def Rd.put (r : Rd) (op : Int) : Rd := ⟨r.ws, r.out ++ [⟨op, 0⟩]⟩
def Rd.place (r : Rd) (last : Int) : Int := match r.ws with | [] => last | w :: _ => w.f2
def Rd.fail (r : Rd) (last e : Int) : End := .stop e (r.place last)
/-- What goes on behind a method. -/
def thenDo (x : Option End) (f : Rd → Option End) : Option End := match x with
  | none => none
  | some (.stop e a) => some (.stop e a)
  | some (.go r) => f r
/-- The next word, which must be this one. -/
def Rd.want (r : Rd) (last : Int) (s : Bs) (f : Rd → Option End) : Option End := if r.next = s then f r.pop else some (r.fail last 150)
/-- Where a name stands among the names. -/
def placeOf (names : List ByteArray) (s : Bs) : Option Nat := names.findIdx? (fun x => x.data.toList == s)
/-- A proposition. -/
def Rd.name (r : Rd) (names : List ByteArray) (last : Int) : Option End := match r.ws with
  | [] => some (r.fail last 150)
  | w :: _ => if w.f1.data.toList = [] ∨ w.f0 ≠ 2 then some (r.fail last 150) else match placeOf names w.f1.data.toList with
    | none => some (r.fail last 6)
    | some i => some (.go (⟨r.ws, r.out ++ [⟨2, (i : Int)⟩]⟩ : Rd).pop)
def run (names : List ByteArray) (last : Int) : Nat → Nt → Rd → Option End
  | 0, _, _ => none
  | n + 1, .iff, r => thenDo (run names last n .imp r) (run names last n .moreIff)
  | n + 1, .moreIff, r => if r.next = [60, 45, 62] then thenDo (run names last n .imp r.pop) (fun r => run names last n .moreIff (r.put 14)) else some (.go r)
  | n + 1, .imp, r => thenDo (run names last n .or r) (fun r => if r.next = [45, 62] then thenDo (run names last n .imp r.pop) (fun r => some (.go (r.put 13))) else some (.go r))
  | n + 1, .or, r => thenDo (run names last n .and r) (run names last n .moreOr)
  | n + 1, .moreOr, r => if r.next = [124] then thenDo (run names last n .and r.pop) (fun r => run names last n .moreOr (r.put 12)) else some (.go r)
  | n + 1, .and, r => thenDo (run names last n .til r) (run names last n .moreAnd)
  | n + 1, .moreAnd, r => if r.next = [38] then thenDo (run names last n .til r.pop) (fun r => run names last n .moreAnd (r.put 11)) else some (.go r)
  | n + 1, .til, r => thenDo (run names last n .unary r) (fun r => if r.next = [85] then thenDo (run names last n .til r.pop) (fun r => some (.go (r.put 15))) else if r.next = [82] then thenDo (run names last n .til r.pop) (fun r => some (.go (r.put 16))) else some (.go r))
  | n + 1, .unary, r =>
    if r.next = [33] then thenDo (run names last n .unary r.pop) (fun r => some (.go (r.put 6)))
    else if r.next = [88] then thenDo (run names last n .unary r.pop) (fun r => some (.go (r.put 7)))
    else if r.next = [78] then thenDo (run names last n .unary r.pop) (fun r => some (.go (r.put 8)))
    else if r.next = [70] then thenDo (run names last n .unary r.pop) (fun r => some (.go (r.put 9)))
    else if r.next = [71] then thenDo (run names last n .unary r.pop) (fun r => some (.go (r.put 10)))
    else if r.next = [60] then thenDo (run names last n .plus r.pop) (fun r => r.want last [62] (fun r => thenDo (run names last n .unary r) (fun r => some (.go (r.put 17)))))
    else if r.next = [91] then thenDo (run names last n .plus r.pop) (fun r => r.want last [93] (fun r => thenDo (run names last n .unary r) (fun r => some (.go (r.put 18)))))
    else run names last n .atom r
  | n + 1, .atom, r =>
    if r.next = [116, 114, 117, 101] then some (.go (r.put 0).pop)
    else if r.next = [102, 97, 108, 115, 101] then some (.go (r.put 1).pop)
    else if r.next = [108, 97, 115, 116] then some (.go (r.put 3).pop)
    else if r.next = [40] then thenDo (run names last n .iff r.pop) (fun r => r.want last [41] (fun r => some (.go r)))
    else r.name names last
  | n + 1, .plus, r => thenDo (run names last n .seq r) (run names last n .morePlus)
  | n + 1, .morePlus, r => if r.next = [43] then thenDo (run names last n .seq r.pop) (fun r => run names last n .morePlus (r.put 21)) else some (.go r)
  | n + 1, .seq, r => thenDo (run names last n .star r) (run names last n .moreSeq)
  | n + 1, .moreSeq, r => if r.next = [59] then thenDo (run names last n .star r.pop) (fun r => run names last n .moreSeq (r.put 22)) else some (.go r)
  | n + 1, .star, r => thenDo (run names last n .bare r) (run names last n .stars)
  | n + 1, .stars, r => if r.next = [42] then run names last n .stars (r.pop.put 23) else some (.go r)
  | n + 1, .bare, r =>
    if r.next = [123] then thenDo (run names last n .iff r.pop) (fun r => r.want last [125] (fun r => some (.go (r.put 19))))
    else if r.next = [63] then thenDo (run names last n .unary r.pop) (fun r => some (.go (r.put 20)))
    else if r.next = [40] then thenDo (run names last n .plus r.pop) (fun r => r.want last [41] (fun r => some (.go r)))
    else some (r.fail last 150)
/-- The words of a text, read from the given method on to their end. -/
def readW (names : List ByteArray) (last : Int) (n : Nat) (nt : Nt) (ws : List Wd) : Option End :=
  thenDo (run names last n nt ⟨ws, []⟩) (fun r => match r.ws with | [] => some (.go r) | _ :: _ => some (r.fail last 150))
end Go.Proofs.YtaogoabnidbbpaaDoor.PText
