/- Texts of this work merged into one file, what the law does not need left out: TextReads; TextRuns. Conditions stand in each law. -/
import Derived.Test.YtaogoabnidbbpaaGreatDoorSt19
namespace Go.Proofs.YtaogoabnidbbpaaGreatDoor.PText
open Go.RowKit Go.Proofs.YtaogoabnidbbpaaGreatDoorW.PrintWords Go.Proofs.YtaogoabnidbbpaaGreatDoorW.PrintLast Go.Proofs.YtaogoabnidbbpaaGreatDoorW.PrintMore
set_option linter.unusedVariables false
set_option linter.unusedSimpArgs false
/-- A word without its place. -/
abbrev Sy := Int × Bs
def sy (w : Wd) : Sy := (w.f0, w.f1.data.toList)
def nextS : List Sy → Bs
 | [] => []
 | w :: _ => w.2
def lefty : Nt → Option (Nt × Nt)
 | .iff => some (.imp, .moreIff)
 | .or => some (.and, .moreOr)
 | .and => some (.til, .moreAnd)
 | .plus => some (.seq, .morePlus)
 | .seq => some (.star, .moreSeq)
 | .star => some (.bare, .stars)
 | _ => none
def morely : Nt → Option (Bs × Int × Nt)
 | .moreIff => some ([60, 45, 62], 14, .imp)
 | .moreOr => some ([124], 12, .and)
 | .moreAnd => some ([38], 11, .til)
 | .morePlus => some ([43], 21, .seq)
 | .moreSeq => some ([59], 22, .star)
 | _ => none
def pres : List (Bs × Int) := [([33], 6), ([88], 7), ([78], 8), ([70], 9), ([71], 10)]
def modals : List (Bs × Bs × Int) := [([60], [62], 17), ([91], [93], 18)]
def words0 : List (Bs × Int) := [([116, 114, 117, 101], 0), ([102, 97, 108, 115, 101], 1), ([108, 97, 115, 116], 3)]
def rightb : Nt → Option Nt
 | .imp => some .or
 | .til => some .unary
 | _ => none
def righty : Nt → Bs → Option Int
 | .imp, s => if s = [45, 62] then some 13 else none
 | .til, s => if s = [85] then some 15 else if s = [82] then some 16 else none
 | _, _ => none
inductive Reads (names : List ByteArray) : Nt → List Sy → List Tk → List Sy → Prop
 | left {nt b m : Nt} {ws ws1 ws2 : List Sy} {l1 l2 : List Tk} : lefty nt = some (b, m) → Reads names b ws l1 ws1 → Reads names m ws1 l2 ws2 → Reads names nt ws (l1 ++ l2) ws2
 | more {nt b : Nt} {s : Bs} {op k : Int} {ws ws1 ws2 : List Sy} {l1 l2 : List Tk} : morely nt = some (s, op, b) → Reads names b ws l1 ws1 → Reads names nt ws1 l2 ws2 → Reads names nt ((k, s) :: ws) (l1 ++ [(⟨op, 0⟩ : Tk)] ++ l2) ws2
 | rest {nt b : Nt} {s : Bs} {op : Int} {ws : List Sy} : morely nt = some (s, op, b) → nextS ws ≠ s → Reads names nt ws [] ws
 | star {k : Int} {ws ws1 : List Sy} {l : List Tk} : Reads names .stars ws l ws1 → Reads names .stars ((k, [42]) :: ws) ([(⟨23, 0⟩ : Tk)] ++ l) ws1
 | unstar {ws : List Sy} : nextS ws ≠ [42] → Reads names .stars ws [] ws
 | one {nt b : Nt} {ws ws1 : List Sy} {l : List Tk} : rightb nt = some b → Reads names b ws l ws1 → righty nt (nextS ws1) = none → Reads names nt ws l ws1
 | right {nt b : Nt} {s : Bs} {op k : Int} {ws ws1 ws2 : List Sy} {l1 l2 : List Tk} : rightb nt = some b → righty nt s = some op → Reads names b ws l1 ((k, s) :: ws1) → Reads names nt ws1 l2 ws2 → Reads names nt ws (l1 ++ l2 ++ [(⟨op, 0⟩ : Tk)]) ws2
 | pre {s : Bs} {op k : Int} {ws ws1 : List Sy} {l : List Tk} : (s, op) ∈ pres → Reads names .unary ws l ws1 → Reads names .unary ((k, s) :: ws) (l ++ [(⟨op, 0⟩ : Tk)]) ws1
 | modal {o s : Bs} {op k1 k2 : Int} {ws ws1 ws2 : List Sy} {l1 l2 : List Tk} : (o, s, op) ∈ modals → Reads names .plus ws l1 ((k2, s) :: ws1) → Reads names .unary ws1 l2 ws2 → Reads names .unary ((k1, o) :: ws) (l1 ++ l2 ++ [(⟨op, 0⟩ : Tk)]) ws2
 | atom {ws ws1 : List Sy} {l : List Tk} : (∀ p ∈ pres, nextS ws ≠ p.1) → (∀ p ∈ modals, nextS ws ≠ p.1) → Reads names .atom ws l ws1 → Reads names .unary ws l ws1
 | word {s : Bs} {op k : Int} {ws : List Sy} : (s, op) ∈ words0 → Reads names .atom ((k, s) :: ws) [(⟨op, 0⟩ : Tk)] ws
 | paren {k1 k2 : Int} {ws ws1 : List Sy} {l : List Tk} : Reads names .iff ws l ((k2, [41]) :: ws1) → Reads names .atom ((k1, [40]) :: ws) l ws1
 | name {s : Bs} {ws : List Sy} {i : Nat} : (∀ p ∈ words0, s ≠ p.1) → s ≠ [40] → s ≠ [] → placeOf names s = some i → Reads names .atom ((2, s) :: ws) [(⟨2, (i : Int)⟩ : Tk)] ws
 | step {k1 k2 : Int} {ws ws1 : List Sy} {l : List Tk} : Reads names .iff ws l ((k2, [125]) :: ws1) → Reads names .bare ((k1, [123]) :: ws) (l ++ [(⟨19, 0⟩ : Tk)]) ws1
 | test {k1 : Int} {ws ws1 : List Sy} {l : List Tk} : Reads names .unary ws l ws1 → Reads names .bare ((k1, [63]) :: ws) (l ++ [(⟨20, 0⟩ : Tk)]) ws1
 | group {k1 k2 : Int} {ws ws1 : List Sy} {l : List Tk} : Reads names .plus ws l ((k2, [41]) :: ws1) → Reads names .bare ((k1, [40]) :: ws) l ws1
theorem next_sy (r : Rd) : nextS (r.ws.map sy) = r.next := by
 unfold Rd.next
 cases r.ws <;> rfl
theorem map_next {r : Rd} {s : Bs} (hs : s ≠ []) (h : r.next = s) : ∃ k, r.ws.map sy = (k, s) :: (r.pop.ws.map sy) := by
 unfold Rd.next at h
 unfold Rd.pop
 cases hw : r.ws with
 | nil => rw [hw] at h; exact absurd h.symm hs
 | cons w t =>
  rw [hw] at h
  refine ⟨w.f0, ?_⟩
  show (w.f0, w.f1.data.toList) :: t.map sy = (w.f0, s) :: (List.drop 1 (w :: t)).map sy
  rw [show w.f1.data.toList = s from h]; rfl
theorem want_go2 {r r' : Rd} {last : Int} {s : Bs} {f : Rd → Option End} (hs : s ≠ []) (h : r.want last s f = some (.go r')) : r.next = s ∧ f r.pop = some (.go r') := by
 unfold Rd.want at h
 split at h
 ·rename_i hn; exact ⟨hn, h⟩
 ·cases h
theorem name_go2 {r r' : Rd} {names : List ByteArray} {last : Int} (h : r.name names last = some (.go r')) : ∃ i s ws, r.ws.map sy = (2, s) :: ws ∧ s ≠ [] ∧ placeOf names s = some i ∧ r'.ws.map sy = ws ∧ r'.out = r.out ++ [(⟨2, (i : Int)⟩ : Tk)] ∧ r.next = s := by
 unfold Rd.name at h
 cases hw : r.ws with
 | nil => rw [hw] at h; cases h
 | cons w t =>
  rw [hw] at h
  simp only at h
  split at h
  ·cases h
  ·rename_i hne
   split at h
   ·cases h
   ·rename_i i hi
    have h2 := Option.some.inj h
    injection h2 with h2
    subst h2
    rw [not_or] at hne
    refine ⟨i, w.f1.data.toList, t.map sy, ?_, hne.1, hi, ?_, rfl, ?_⟩
    ·show (w.f0, w.f1.data.toList) :: t.map sy = _
     rw [Classical.not_not.1 hne.2]
    ·show ((w :: t).drop 1).map sy = _
     rfl
    ·unfold Rd.next; rw [hw]
theorem run_reads (names : List ByteArray) (last : Int) (n : Nat) : ∀ nt (r r' : Rd), run names last n nt r = some (.go r') → ∃ l, Reads names nt (r.ws.map sy) l (r'.ws.map sy) ∧ r'.out = r.out ++ l := by
 induction n with
 | zero => intro nt r r' h; rw [run] at h; cases h
 | succ n ih =>
  have go1 : ∀ {r r' : Rd}, (some (End.go r) : Option End) = some (.go r') → r' = r := by intro r r' h; injection h with h; injection h with h; exact h.symm
  have two : ∀ (nt a b : Nt) (r r' : Rd), lefty nt = some (a, b) → thenDo (run names last n a r) (run names last n b) = some (.go r') → ∃ l, Reads names nt (r.ws.map sy) l (r'.ws.map sy) ∧ r'.out = r.out ++ l := by
   intro nt a b r r' hl h
   obtain ⟨r1, h1, h2⟩ := then_go h
   obtain ⟨l1, d1, o1⟩ := ih a r r1 h1
   obtain ⟨l2, d2, o2⟩ := ih b r1 r' h2
   exact ⟨l1 ++ l2, .left hl d1 d2, by rw [o2, o1, List.append_assoc]⟩
  have more : ∀ (nt : Nt) (s : Bs) (a : Nt) (op : Int) (r r' : Rd), s ≠ [] → morely nt = some (s, op, a) → (if r.next = s then thenDo (run names last n a r.pop) (fun r => run names last n nt (r.put op)) else some (.go r)) = some (.go r') → ∃ l, Reads names nt (r.ws.map sy) l (r'.ws.map sy) ∧ r'.out = r.out ++ l := by
   intro nt s a op r r' hs hm h
   split at h
   ·rename_i hn
    obtain ⟨r1, h1, h2⟩ := then_go h
    obtain ⟨l1, d1, o1⟩ := ih a r.pop r1 h1
    obtain ⟨l2, d2, o2⟩ := ih nt _ r' h2
    obtain ⟨k, hk⟩ := map_next hs hn
    rw [hk]
    refine ⟨_, .more hm d1 d2, ?_⟩
    rw [o2, show (r1.put op).out = r1.out ++ [⟨op, 0⟩] from rfl, o1, show r.pop.out = r.out from rfl]
    simp only [List.append_assoc]
   ·rename_i hn
    rw [go1 h]
    exact ⟨[], .rest hm (by rw [next_sy]; exact hn), by rw [List.append_nil]⟩
  have un : ∀ (s : Bs) (a : Nt) (op : Int) (r r' : Rd), s ≠ [] → r.next = s → thenDo (run names last n a r.pop) (fun r => some (.go (r.put op))) = some (.go r') → ∃ l k, Reads names a (r.pop.ws.map sy) l (r'.ws.map sy) ∧ r.ws.map sy = (k, s) :: r.pop.ws.map sy ∧ r'.out = r.out ++ (l ++ [(⟨op, 0⟩ : Tk)]) := by
   intro s a op r r' hs hn h
   obtain ⟨r1, h1, h2⟩ := then_go h
   obtain ⟨l1, d1, o1⟩ := ih a r.pop r1 h1
   obtain ⟨k, hk⟩ := map_next hs hn
   rw [go1 h2]
   refine ⟨l1, k, d1, hk, ?_⟩
   rw [show (r1.put op).out = r1.out ++ [⟨op, 0⟩] from rfl, o1, show r.pop.out = r.out from rfl, List.append_assoc]
  have modal : ∀ (s s2 : Bs) (op : Int) (r r' : Rd), s ≠ [] → s2 ≠ [] → (s, s2, op) ∈ modals → r.next = s → thenDo (run names last n .plus r.pop) (fun r => r.want last s2 (fun r => thenDo (run names last n .unary r) (fun r => some (.go (r.put op))))) = some (.go r') → ∃ l, Reads names .unary (r.ws.map sy) l (r'.ws.map sy) ∧ r'.out = r.out ++ l := by
   intro s s2 op r r' hs hs2 hm hn h
   obtain ⟨r1, h1, h2⟩ := then_go h
   obtain ⟨l1, d1, o1⟩ := ih .plus r.pop r1 h1
   obtain ⟨h4, h6⟩ := want_go2 hs2 h2
   obtain ⟨l2, k2, d2, -, o2⟩ : ∃ l2 k2, Reads names .unary (r1.pop.ws.map sy) l2 (r'.ws.map sy) ∧ r1.ws.map sy = (k2, s2) :: r1.pop.ws.map sy ∧ r'.out = r1.out ++ (l2 ++ [(⟨op, 0⟩ : Tk)]) := un s2 .unary op r1 r' hs2 h4 h6
   obtain ⟨k1, hk1⟩ := map_next hs hn
   obtain ⟨k2', hk2⟩ := map_next hs2 h4
   rw [hk1]
   rw [hk2] at d1
   refine ⟨_, .modal hm d1 d2, ?_⟩
   rw [o2, o1, show r.pop.out = r.out from rfl]
   simp only [List.append_assoc]
  have paren : ∀ (s s2 : Bs) (a : Nt) (f : Rd → Rd) (r r' : Rd), s ≠ [] → s2 ≠ [] → (∀ q, (f q).ws = q.ws) → r.next = s → thenDo (run names last n a r.pop) (fun r => r.want last s2 (fun r => some (.go (f r)))) = some (.go r') → ∃ l k k2 q, r.ws.map sy = (k, s) :: r.pop.ws.map sy ∧ Reads names a (r.pop.ws.map sy) l ((k2, s2) :: r'.ws.map sy) ∧ q.out = r.out ++ l ∧ r' = f q := by
   intro s s2 a f r r' hs hs2 hf hn h
   obtain ⟨r1, h1, h2⟩ := then_go h
   obtain ⟨l1, d1, o1⟩ := ih a r.pop r1 h1
   obtain ⟨h4, h6⟩ := want_go2 hs2 h2
   obtain ⟨k1, hk1⟩ := map_next hs hn
   obtain ⟨k2, hk2⟩ := map_next hs2 h4
   have h7 := go1 h6
   refine ⟨l1, k1, k2, r1.pop, hk1, ?_, ?_, h7⟩
   ·rw [h7, hf, ← hk2]; exact d1
   ·exact o1
  have word : ∀ (s : Bs) (op : Int) (r r' : Rd), s ≠ [] → (s, op) ∈ words0 → r.next = s → (some (End.go (r.put op).pop) : Option End) = some (.go r') → ∃ l, Reads names .atom (r.ws.map sy) l (r'.ws.map sy) ∧ r'.out = r.out ++ l := by
   intro s op r r' hs hm hn h
   obtain ⟨k, hk⟩ := map_next hs hn
   rw [go1 h, hk]
   exact ⟨_, .word hm, rfl⟩
  intro nt r r' h
  cases nt with
  | iff => rw [run] at h; exact two _ _ _ r r' rfl h
  | or => rw [run] at h; exact two _ _ _ r r' rfl h
  | and => rw [run] at h; exact two _ _ _ r r' rfl h
  | plus => rw [run] at h; exact two _ _ _ r r' rfl h
  | seq => rw [run] at h; exact two _ _ _ r r' rfl h
  | star => rw [run] at h; exact two _ _ _ r r' rfl h
  | moreIff => rw [run] at h; exact more _ _ _ _ r r' (by decide) rfl h
  | moreOr => rw [run] at h; exact more _ _ _ _ r r' (by decide) rfl h
  | moreAnd => rw [run] at h; exact more _ _ _ _ r r' (by decide) rfl h
  | morePlus => rw [run] at h; exact more _ _ _ _ r r' (by decide) rfl h
  | moreSeq => rw [run] at h; exact more _ _ _ _ r r' (by decide) rfl h
  | stars =>
   rw [run] at h
   split at h
   ·rename_i hn
    obtain ⟨l, d, o⟩ := ih .stars _ r' h
    obtain ⟨k, hk⟩ := map_next (by decide) hn
    rw [hk]
    refine ⟨_, .star d, ?_⟩
    rw [o, show (r.pop.put 23).out = r.out ++ [⟨23, 0⟩] from rfl, List.append_assoc]
   ·rename_i hn
    rw [go1 h]
    exact ⟨[], .unstar (by rw [next_sy]; exact hn), by rw [List.append_nil]⟩
  | imp =>
   rw [run] at h
   obtain ⟨r1, h1, h2⟩ := then_go h
   obtain ⟨l1, d1, o1⟩ := ih .or r r1 h1
   split at h2
   ·rename_i hn
    obtain ⟨l2, k, d2, hk, o2⟩ := un _ .imp 13 r1 r' (by decide) hn h2
    rw [hk] at d1
    refine ⟨_, .right rfl rfl d1 d2, ?_⟩
    rw [o2, o1]; simp only [List.append_assoc]
   ·rename_i hn
    rw [go1 h2]
    exact ⟨l1, .one rfl d1 (by rw [next_sy]; exact if_neg hn), o1⟩
  | til =>
   rw [run] at h
   obtain ⟨r1, h1, h2⟩ := then_go h
   obtain ⟨l1, d1, o1⟩ := ih .unary r r1 h1
   split at h2
   ·rename_i hn
    obtain ⟨l2, k, d2, hk, o2⟩ := un _ .til 15 r1 r' (by decide) hn h2
    rw [hk] at d1
    refine ⟨_, .right rfl rfl d1 d2, ?_⟩
    rw [o2, o1]; simp only [List.append_assoc]
   ·rename_i hn0
    split at h2
    ·rename_i hn
     obtain ⟨l2, k, d2, hk, o2⟩ := un _ .til 16 r1 r' (by decide) hn h2
     rw [hk] at d1
     refine ⟨_, .right rfl rfl d1 d2, ?_⟩
     rw [o2, o1]; simp only [List.append_assoc]
    ·rename_i hn
     rw [go1 h2]
     exact ⟨l1, .one rfl d1 (by rw [next_sy]; show (if r1.next = [85] then some (15 : Int) else if r1.next = [82] then some 16 else none) = none; rw [if_neg hn0, if_neg hn]), o1⟩
  | unary =>
   have pre : ∀ (s : Bs) (op : Int), s ≠ [] → (s, op) ∈ pres → r.next = s → thenDo (run names last n .unary r.pop) (fun r => some (.go (r.put op))) = some (.go r') → ∃ l, Reads names .unary (r.ws.map sy) l (r'.ws.map sy) ∧ r'.out = r.out ++ l := by
    intro s op hs hm hn h
    obtain ⟨l, k, d, hk, o⟩ := un s .unary op r r' hs hn h
    rw [hk]
    exact ⟨_, .pre hm d, o⟩
   rw [run] at h
   split at h
   ·rename_i hn; exact pre _ _ (by decide) (by decide) hn h
   rename_i n1
   split at h
   ·rename_i hn; exact pre _ _ (by decide) (by decide) hn h
   rename_i n2
   split at h
   ·rename_i hn; exact pre _ _ (by decide) (by decide) hn h
   rename_i n3
   split at h
   ·rename_i hn; exact pre _ _ (by decide) (by decide) hn h
   rename_i n4
   split at h
   ·rename_i hn; exact pre _ _ (by decide) (by decide) hn h
   rename_i n5
   split at h
   ·rename_i hn; exact modal _ _ _ r r' (by decide) (by decide) (by decide) hn h
   rename_i n6
   split at h
   ·rename_i hn; exact modal _ _ _ r r' (by decide) (by decide) (by decide) hn h
   rename_i n7
   obtain ⟨l, d, o⟩ := ih .atom r r' h
   refine ⟨l, .atom ?_ ?_ d, o⟩
   ·rw [next_sy]
    intro p hp
    simp only [pres, List.mem_cons, List.not_mem_nil, or_false] at hp
    rcases hp with rfl | rfl | rfl | rfl | rfl <;> assumption
   ·rw [next_sy]
    intro p hp
    simp only [modals, List.mem_cons, List.not_mem_nil, or_false] at hp
    rcases hp with rfl | rfl <;> assumption
  | atom =>
   rw [run] at h
   split at h
   ·rename_i hn; exact word _ _ r r' (by decide) (by decide) hn h
   rename_i n1
   split at h
   ·rename_i hn; exact word _ _ r r' (by decide) (by decide) hn h
   rename_i n2
   split at h
   ·rename_i hn; exact word _ _ r r' (by decide) (by decide) hn h
   rename_i n3
   split at h
   ·rename_i hn
    obtain ⟨l, k, k2, q, hk, d, o, e⟩ := paren _ _ .iff (fun q => q) r r' (by decide) (by decide) (fun q => rfl) hn h
    rw [hk]
    exact ⟨_, .paren d, by rw [e]; exact o⟩
   ·rename_i n4
    obtain ⟨i, s, ws, h1, h2, h3, h4, h5, h6⟩ := name_go2 h
    rw [h1, h4]
    refine ⟨_, .name ?_ (by rw [← h6]; exact n4) h2 h3, h5⟩
    intro p hp
    simp only [words0, List.mem_cons, List.not_mem_nil, or_false] at hp
    rw [← h6]
    rcases hp with rfl | rfl | rfl <;> assumption
  | bare =>
   rw [run] at h
   split at h
   ·rename_i hn
    obtain ⟨l, k, k2, q, hk, d, o, e⟩ := paren _ _ .iff (fun q => q.put 19) r r' (by decide) (by decide) (fun q => rfl) hn h
    rw [hk]
    exact ⟨_, .step d, by rw [e, show (q.put 19).out = q.out ++ [⟨19, 0⟩] from rfl, o, List.append_assoc]⟩
   split at h
   ·rename_i hn
    obtain ⟨l, k, d, hk, o⟩ := un _ .unary 20 r r' (by decide) hn h
    rw [hk]
    exact ⟨_, .test d, o⟩
   split at h
   ·rename_i hn
    obtain ⟨l, k, k2, q, hk, d, o, e⟩ := paren _ _ .plus (fun q => q) r r' (by decide) (by decide) (fun q => rfl) hn h
    rw [hk]
    exact ⟨_, .group d, by rw [e]; exact o⟩
   ·cases h
theorem reads_len {names : List ByteArray} {nt : Nt} {ws ws1 : List Sy} {l : List Tk} (h : Reads names nt ws l ws1) : ws1.length ≤ ws.length := by
 induction h with
 | left _ _ _ i1 i2 => omega
 | more _ _ _ i1 i2 => rw [List.length_cons]; omega
 | rest _ _ => exact Nat.le_refl _
 | star _ i => rw [List.length_cons]; omega
 | unstar _ => exact Nat.le_refl _
 | one _ _ _ i => exact i
 | right _ _ _ _ i1 i2 => rw [List.length_cons] at i1; omega
 | pre _ _ i => rw [List.length_cons]; omega
 | modal _ _ _ i1 i2 => rw [List.length_cons] at i1 ⊢; omega
 | atom _ _ _ i => exact i
 | word _ => rw [List.length_cons]; omega
 | paren _ i => rw [List.length_cons] at i ⊢; omega
 | name _ _ _ _ => rw [List.length_cons]; omega
 | step _ i => rw [List.length_cons] at i ⊢; omega
 | test _ i => rw [List.length_cons]; omega
 | group _ i => rw [List.length_cons] at i ⊢; omega
theorem run_left {nt b m : Nt} (h : lefty nt = some (b, m)) (names : List ByteArray) (last : Int) (n : Nat) (r : Rd) : run names last (n + 1) nt r = thenDo (run names last n b r) (run names last n m) := by
 cases nt <;> cases h <;> rw [run]
theorem run_more {nt b : Nt} {s : Bs} {op : Int} (h : morely nt = some (s, op, b)) (names : List ByteArray) (last : Int) (n : Nat) (r : Rd) :
  run names last (n + 1) nt r = if r.next = s then thenDo (run names last n b r.pop) (fun r => run names last n nt (r.put op)) else some (.go r) := by
 cases nt <;> cases h <;> rw [run]
theorem more_ne {nt b : Nt} {s : Bs} {op : Int} (h : morely nt = some (s, op, b)) : s ≠ [] := by
 cases nt <;> cases h <;> decide
def rank : Nt → Nat
 | .iff => 6 | .imp => 5 | .or => 4 | .and => 3 | .til => 2 | .unary => 1 | .atom => 0 | .plus => 6 | .seq => 5 | .star => 4 | .bare => 3 | _ => 0
theorem run_ws {names : List ByteArray} {last : Int} {n : Nat} {nt : Nt} {r r' : Rd} (h : run names last n nt r = some (.go r')) : r'.ws.length ≤ r.ws.length := by
 obtain ⟨l, d, -⟩ := run_reads names last n nt r r' h
 have := reads_len d
 rwa [List.length_map, List.length_map] at this
theorem pop_ws {r : Rd} (h : 1 ≤ r.ws.length) : r.pop.ws.length + 1 = r.ws.length := by
 show (r.ws.drop 1).length + 1 = _
 rw [List.length_drop]; omega
/-- With rounds enough it comes to an end. -/
theorem run_total (names : List ByteArray) (last : Int) (n : Nat) : ∀ (nt : Nt) (r : Rd), 8 * r.ws.length + rank nt < n → ∃ e, run names last n nt r = some e := by
 induction n with
 | zero => intro nt r h; omega
 | succ n ih =>
  have then_ok : ∀ (a : Nt) (r : Rd) (f : Rd → Option End), 8 * r.ws.length + rank a < n → (∀ r1, r1.ws.length ≤ r.ws.length → ∃ e, f r1 = some e) → ∃ e, thenDo (run names last n a r) f = some e := by
   intro a r f hb hf
   obtain ⟨e1, h1⟩ := ih a r hb
   rw [h1]
   cases e1 with
   | stop x y => exact ⟨_, rfl⟩
   | go r1 => exact hf r1 (run_ws h1)
  have put_ok : ∀ (a : Nt) (s : Bs) (r : Rd) (f : Rd → Rd), s ≠ [] → r.next = s → 8 * r.ws.length ≤ n → rank a < 8 → ∃ e, thenDo (run names last n a r.pop) (fun r => some (.go (f r))) = some e := by
   intro a s r f hs hn hb hr
   have := pop_ws (next_ws hs hn)
   exact then_ok a r.pop _ (by omega) (fun r1 _ => ⟨_, rfl⟩)
  have want_ok : ∀ (a : Nt) (s s2 : Bs) (r : Rd) (f : Rd → Option End), s ≠ [] → s2 ≠ [] → r.next = s → 8 * r.ws.length ≤ n → rank a < 8 → (∀ r1, r1.ws.length + 2 ≤ r.ws.length → ∃ e, f r1 = some e) → ∃ e, thenDo (run names last n a r.pop) (fun r => r.want last s2 f) = some e := by
   intro a s s2 r f hs hs2 hn hb hr hf
   have hp := pop_ws (next_ws hs hn)
   refine then_ok a r.pop _ (by omega) (fun r1 h1 => ?_)
   unfold Rd.want
   split
   ·rename_i h2
    have h3 := pop_ws (next_ws hs2 h2)
    exact hf r1.pop (by omega)
   ·exact ⟨_, rfl⟩
  have left_ok : ∀ (nt b m : Nt) (r : Rd), lefty nt = some (b, m) → rank b < rank nt → rank m = 0 → 8 * r.ws.length + rank nt < n + 1 → ∃ e, run names last (n + 1) nt r = some e := by
   intro nt b m r hl h1 h2 hb
   rw [run_left hl]
   exact then_ok b r _ (by omega) (fun r1 h3 => ih m r1 (by omega))
  have more_ok : ∀ (nt b : Nt) (s : Bs) (op : Int) (r : Rd), morely nt = some (s, op, b) → rank nt = 0 → rank b < 8 → 8 * r.ws.length + rank nt < n + 1 → ∃ e, run names last (n + 1) nt r = some e := by
   intro nt b s op r hm h1 h2 hb
   rw [run_more hm]
   split
   ·rename_i hn
    have hp := pop_ws (next_ws (more_ne hm) hn)
    exact then_ok b r.pop _ (by omega) (fun r1 h3 => ih nt (r1.put op) (by rw [put_ws]; omega))
   ·exact ⟨_, rfl⟩
  intro nt r hb
  cases nt with
  | iff => exact left_ok _ _ _ r rfl (by decide) rfl hb
  | or => exact left_ok _ _ _ r rfl (by decide) rfl hb
  | and => exact left_ok _ _ _ r rfl (by decide) rfl hb
  | plus => exact left_ok _ _ _ r rfl (by decide) rfl hb
  | seq => exact left_ok _ _ _ r rfl (by decide) rfl hb
  | star => exact left_ok _ _ _ r rfl (by decide) rfl hb
  | moreIff => exact more_ok _ _ _ _ r rfl rfl (by decide) hb
  | moreOr => exact more_ok _ _ _ _ r rfl rfl (by decide) hb
  | moreAnd => exact more_ok _ _ _ _ r rfl rfl (by decide) hb
  | morePlus => exact more_ok _ _ _ _ r rfl rfl (by decide) hb
  | moreSeq => exact more_ok _ _ _ _ r rfl rfl (by decide) hb
  | stars =>
   rw [run]
   split
   ·rename_i hn
    have hp := pop_ws (next_ws (by decide) hn)
    exact ih .stars _ (by rw [put_ws]; simp only [rank] at hb ⊢; omega)
   ·exact ⟨_, rfl⟩
  | imp =>
   rw [run]
   simp only [rank] at hb
   refine then_ok .or r _ (by simp only [rank]; omega) (fun r1 h1 => ?_)
   split
   ·rename_i hn; exact put_ok .imp _ r1 _ (by decide) hn (by omega) (by decide)
   ·exact ⟨_, rfl⟩
  | til =>
   rw [run]
   simp only [rank] at hb
   refine then_ok .unary r _ (by simp only [rank]; omega) (fun r1 h1 => ?_)
   split
   ·rename_i hn; exact put_ok .til _ r1 _ (by decide) hn (by omega) (by decide)
   ·split
    ·rename_i hn; exact put_ok .til _ r1 _ (by decide) hn (by omega) (by decide)
    ·exact ⟨_, rfl⟩
  | unary =>
   simp only [rank] at hb
   have modal_ok : ∀ (s s2 : Bs) (op : Int), s ≠ [] → s2 ≠ [] → r.next = s → ∃ e, thenDo (run names last n .plus r.pop) (fun r => r.want last s2 (fun r => thenDo (run names last n .unary r) (fun r => some (.go (r.put op))))) = some e := by
    intro s s2 op hs hs2 hn
    exact want_ok .plus s s2 r _ hs hs2 hn (by omega) (by decide) (fun r1 h1 => then_ok .unary r1 _ (by simp only [rank]; omega) (fun r2 _ => ⟨_, rfl⟩))
   rw [run]
   split
   ·rename_i hn; exact put_ok .unary _ r _ (by decide) hn (by omega) (by decide)
   split
   ·rename_i hn; exact put_ok .unary _ r _ (by decide) hn (by omega) (by decide)
   split
   ·rename_i hn; exact put_ok .unary _ r _ (by decide) hn (by omega) (by decide)
   split
   ·rename_i hn; exact put_ok .unary _ r _ (by decide) hn (by omega) (by decide)
   split
   ·rename_i hn; exact put_ok .unary _ r _ (by decide) hn (by omega) (by decide)
   split
   ·rename_i hn; exact modal_ok _ _ _ (by decide) (by decide) hn
   split
   ·rename_i hn; exact modal_ok _ _ _ (by decide) (by decide) hn
   ·exact ih .atom r (by simp only [rank]; omega)
  | atom =>
   simp only [rank] at hb
   rw [run]
   split
   ·exact ⟨_, rfl⟩
   split
   ·exact ⟨_, rfl⟩
   split
   ·exact ⟨_, rfl⟩
   split
   ·rename_i hn
    exact want_ok .iff _ _ r _ (by decide) (by decide) hn (by omega) (by decide) (fun r1 _ => ⟨_, rfl⟩)
   ·unfold Rd.name
    split
    ·exact ⟨_, rfl⟩
    ·split
     ·exact ⟨_, rfl⟩
     ·split <;> exact ⟨_, rfl⟩
  | bare =>
   simp only [rank] at hb
   rw [run]
   split
   ·rename_i hn
    exact want_ok .iff _ _ r _ (by decide) (by decide) hn (by omega) (by decide) (fun r1 _ => ⟨_, rfl⟩)
   split
   ·rename_i hn; exact put_ok .unary _ r _ (by decide) hn (by omega) (by decide)
   split
   ·rename_i hn
    exact want_ok .plus _ _ r _ (by decide) (by decide) hn (by omega) (by decide) (fun r1 _ => ⟨_, rfl⟩)
   ·exact ⟨_, rfl⟩
end Go.Proofs.YtaogoabnidbbpaaGreatDoor.PText
