/- Texts of this work merged into one file, what the law does not need left out: TextFirst; PTextx5b; TextLexer; TextParser. Conditions stand in each law. -/
import Derived.BigCall
import Derived.WalkMore
import Derived.Lib.OthersKept
import Derived.Test.YtaogoabnidbbpaaGreatDoorSt11
namespace Go.Proofs.YtaogoabnidbbpaaGreatDoor.PText
open Go.RowKit Go.Proofs.YtaogoabnidbbpaaGreatDoorW.PrintWords Go.Proofs.YtaogoabnidbbpaaGreatDoorW.PrintLast Go.Proofs.YtaogoabnidbbpaaGreatDoorW.PrintMore
set_option linter.unusedVariables false
set_option linter.unusedSimpArgs false
def longer (l b x : Bs) : Bs := if x.length ≤ b.length then b else if x.isPrefixOf l then x else b
def signL (l : Bs) : Bs := signs.foldl (longer l) []
def headL (l : Bs) : Bs := l.takeWhile wordB
def firstL (l : Bs) : Bs := if headL l = [] then signL l else if (sortL (headL l)).2 = true then headL l else []
def lexis_first.f (s : ByteArray) : Option ByteArray := some (bytesB (firstL s.data.toList))
theorem wordly_all : ∀ a : Fin 256, lexis_wordly.f (a.val : Int) = some (wordB (UInt8.ofNat a.val)) := by decide +kernel
theorem wordly_word (c : UInt8) : lexis_wordly.f (c.toNat : Int) = some (wordB c) := by
 have := wordly_all ⟨c.toNat, c.toNat_lt⟩
 rw [show UInt8.ofNat c.toNat = c from UInt8.ofNat_toNat] at this
 exact this
theorem wordly_high (n : Nat) (h : 128 ≤ n) : lexis_wordly.f (n : Int) = some false := by
 unfold lexis_wordly.f
 rw [if_pos (by omega), if_neg (by omega), if_pos (by omega), if_neg (by omega), if_pos (by omega)]
 rw [decide_eq_false (by omega)]
theorem take_all (l : Bs) (n : Nat) (h : (l.take n).all wordB = true) (he : ∀ c, l[n]? = some c → wordB c = false) : headL l = l.take n := by
 induction n generalizing l with
 | zero =>
  cases l with
  | nil => rfl
  | cons c t => simp only [headL, List.takeWhile_cons, he c rfl]; rfl
 | succ n ih =>
  cases l with
  | nil => rfl
  | cons c t =>
   rw [List.take_succ_cons, List.all_cons, Bool.and_eq_true] at h
   have := ih t h.2 (fun d hd => he d (by simpa using hd))
   unfold headL at this ⊢
   rw [List.takeWhile_cons, h.1]
   simp [this]
theorem extract_take (s : ByteArray) (n : Nat) (h : n ≤ s.size) : s.extract 0 n = bytesB (s.data.toList.take n) := by
 apply ByteArray.ext
 rw [ByteArray.data_extract]
 apply Array.ext'
 simp
 rfl
theorem word_all : ∀ a : Fin 256, wordB (UInt8.ofNat a.val) = true → a.val < 128 := by decide +kernel
theorem word_low (c : UInt8) (h : wordB c = true) : c.toNat < 128 := by
 have := word_all ⟨c.toNat, c.toNat_lt⟩
 rw [show UInt8.ofNat c.toNat = c from UInt8.ofNat_toNat] at this
 exact this h
theorem size_bytesB (x : Bs) : (bytesB x).size = x.length := by simp [bytesB, ByteArray.size]
theorem rd_map (xs : List Bs) (i : Nat) (h : i < xs.length) : rdOf ByteArray.empty (xs.map bytesB) (i : Int) = bytesB xs[i] := by
 unfold rdOf
 rw [Int.toNat_natCast]
 simp [List.getD_eq_getElem?_getD, h]
theorem extract_all (s : ByteArray) : s.extract 0 s.size = s := by simp
theorem signs_len : signs.length = 17 := rfl
theorem prefix_f (s : ByteArray) (x : Bs) : strings_HasPrefix.f s (bytesB x) = some (x.isPrefixOf s.data.toList) := by
 have hs := size_eq s
 have hx := size_bytesB x
 have hc : stringslite_HasPrefix.f s (bytesB x) = some (x.isPrefixOf s.data.toList) := by
  unfold stringslite_HasPrefix.f
  by_cases h1 : x.length ≤ s.size
  ·rw [if_pos (by omega), if_pos (by omega), if_pos (by omega), hx, Int.toNat_natCast, extract_take s x.length h1, bytes_eq, bytes_eq]
   congr 1
   by_cases h2 : x <+: s.data.toList
   ·rw [List.isPrefixOf_iff_prefix.2 h2]
    rw [beq_iff_eq]
    exact (List.prefix_iff_eq_take.1 h2).symm
   ·have h3 : x.isPrefixOf s.data.toList = false := by
     rw [Bool.eq_false_iff]
     exact fun e => h2 (List.isPrefixOf_iff_prefix.1 e)
    rw [h3, beq_eq_false_iff_ne]
    exact fun e => h2 (e ▸ List.take_prefix _ _)
  ·rw [if_neg (by omega)]
   congr 1
   symm
   rw [Bool.eq_false_iff]
   intro e
   have := (List.isPrefixOf_iff_prefix.1 e).length_le
   omega
 unfold strings_HasPrefix.f
 rw [hc]
 rfl
set_option maxHeartbeats 8000000 in
set_option maxRecDepth 100000 in
theorem lexis_first.calls (a0 : ByteArray) (r : ByteArray) (w : World) (h : lexis_first.f a0 = some r) (HT : Aside0 (Laid w) := by exact ⟨Laid.later HT.out (by repeat (first | (with_reducible first | exact HB.out | apply below_alloc | apply pw_below_drewN | apply below_drew1) | exact HB.out))⟩) :
  Calls Tryz.prog 59 #[.string a0] w fun e w' => e = .returned (.string r) ∧ Below w.heap.size w w' := by
 have hr := Option.some.inj h
 clear h
 subst hr
 have hsz := size_eq a0
 obtain ⟨l, hl0⟩ : ∃ l, l = a0.data.toList := ⟨_, rfl⟩
 have hl := Aside0.mk hl0
 clear hl0
 have hlen : l.length = a0.size := by rw [hl.out]; exact hsz
 obtain ⟨ts, hfs, hts⟩ : ∃ ts, strings_Fields.f (⟨#[40, 32, 41, 32, 91, 32, 93, 32, 123, 32, 125, 32, 60, 32, 62, 32, 33, 32, 63, 32, 38, 32, 124, 32, 43, 32, 59, 32, 42, 32, 45, 62, 32, 60, 45, 62]⟩ : ByteArray) = some ts ∧ Aside0 (ts.length = 17 ∧ ∀ i (h : i < signs.length), rdOf ByteArray.empty ts (i : Int) = bytesB signs[i]) := ⟨signs.map bytesB, fields_signs, ⟨by rw [List.length_map]; exact signs_len, fun i h => rd_map signs i h⟩⟩
 go_enter Tryz.func59, Tryz.ntmps59
 go_wp2
 go_step3
 go_wp2
 go_loopw [3] (fun v3 wr => ∃ (pos : Nat), v3 = .int .i64 (a0.size : Int) ∧ pos ≤ a0.size ∧ (l.take pos).all wordB = true ∧ wr.heap[w.heap.size]? = some (.stringIter a0 pos) ∧ Below w.heap.size w wr) (fun v3 wr => a0.size - wr.iterPos w.heap.size)
 case atStart =>
  refine ⟨0, rfl, Nat.zero_le _, by simp, ?_, below_alloc (Below.refl _ w) _⟩
  have := World.iter_heap w a0 0
  simpa using this
 case round =>
  obtain ⟨pos, rfl, hpl, hall, hit, hb⟩ := hrel
  have hsz0 : w.heap.size < wr.heap.size := (Array.getElem?_eq_some_iff.1 hit).1
  by_cases hp : pos < a0.size
  ·obtain ⟨rn, wd, hdec⟩ : ∃ rn wd, Utf8.decode a0 pos = (rn, wd) := ⟨_, _, rfl⟩
   have hnx : ∀ ty, (Instr.next (.pointer (some ⟨w.heap.size, 0, none⟩)) true ty).run Tryz.prog wr = .ok (.tuple #[.bool true, .int .i64 pos, .int .i32 rn]) (wr.iterAt w.heap.size a0 (pos + wd)) := by
    intro ty
    have := Lib.run_next_any_at (P := Tryz.prog) wr w.heap.size a0 pos ty hit hp
    rw [hdec] at this
    exact this
   have hit2 := Lib.iterAt_heap wr w.heap.size a0 pos (pos + wd) hit
   have hbw2 := Lib.below_iterAt hb (k := w.heap.size) (by omega) a0 (pos + wd)
   obtain ⟨c, hc⟩ : ∃ c, c = a0.data.toList[pos]'(by rw [hsz]; exact hp) := ⟨_, rfl⟩
   have hget : l[pos]? = some c := by rw [hl.out, hc]; exact List.getElem?_eq_getElem _
   have HB := Aside0.mk hbw2
   by_cases hw : wordB c = true
   ·have hlt : c.toNat < 128 := word_low c hw
    have hdec1 : (rn, wd) = (c.toNat, 1) := by rw [← hdec, hc]; exact decode_ascii a0 pos hp (by rw [hc] at hlt; exact hlt)
    obtain ⟨hrn, rfl⟩ := Prod.mk.inj hdec1
    have hwd : lexis_wordly.f (rn : Int) = some true := by rw [hrn, ← hw]; exact wordly_word c
    clear hdec1 hdec hrn hc
    go_wp2_with (first | ((with_reducible refine gate_callee (f := 75) rfl ?_); refine goesL_ (some 20) rfl rfl Tryz.func75 (by kernel_rfl) rfl #[.int .i32 _] rfl (by (try simp only [List.map_toArray, List.map_cons, List.map_nil]); first | done | rfl | (simp only [List.length_drop, List.length_take]; rfl)) ?_; (with_reducible refine (lexis_wordly.calls _ true _ hwd).mono ?_); rintro e w' ⟨rfl, ⟨nd, rfl⟩⟩; refine ⟨_, rfl, ?_⟩))
    go_roundw
    case rel =>
     refine ⟨pos + 1, rfl, by omega, ?_, ?_, by repeat (first | (with_reducible first | exact HB.out | apply below_alloc | apply pw_below_drewN | apply below_drew1) | exact HB.out)⟩
     ·rw [List.take_add_one, hget]
      simp [hall, hw]
     ·(with_reducible repeat (first | refine blk_drewN ?_ _ | refine blk_drew ?_ | refine blk_alloc ?_ _))
      exact hit2
    case measure =>
     have h3 := blk_drewN hit2 nd
     simp only [World.iterPos, h3, hit]
     omega
   ·have hw' : wordB c = false := by simpa using hw
    have hwd : lexis_wordly.f (rn : Int) = some false := by
     by_cases hlt : c.toNat < 128
     ·have hdec1 : (rn, wd) = (c.toNat, 1) := by rw [← hdec, hc]; exact decode_ascii a0 pos hp (by rw [hc] at hlt; exact hlt)
      rw [(Prod.mk.inj hdec1).1, ← hw']
      exact wordly_word c
     ·have h5 := (decode_high a0 pos hp (by rw [hc] at hlt; exact Nat.le_of_not_lt hlt)).1
      rw [hdec] at h5
      exact wordly_high _ h5
    clear hdec hc
    have hhead : headL l = l.take pos := take_all l pos hall (fun d hd => by rw [hget] at hd; rw [← Option.some.inj hd]; exact hw')
    have hex0 := extract_take a0 pos hpl
    rw [← hl.out] at hex0
    have hex := Aside0.mk hex0
    clear hex0
    have hex0 := eq_true (show (0 : Int) ≤ (pos : Int) by omega)
    have hex1 := eq_true (show (pos : Int) ≤ (a0.size : Int) by omega)
    by_cases h0 : 0 < pos
    ·have hne : headL l ≠ [] := by rw [hhead]; intro e; have := congrArg List.length e; rw [List.length_take, List.length_nil] at this; omega
     have hE := sort_ev (bytesB (l.take pos))
     obtain ⟨ks, hks⟩ := Ev.rounds hE
     rw [show (bytesB (l.take pos)).data.toList = l.take pos from rfl, ← hex.out] at hks
     obtain ⟨⟨q1, q2⟩, hq0⟩ : ∃ q, q = sortL (l.take pos) := ⟨_, rfl⟩
     rw [← hq0] at hks
     have hq := Aside0.mk hq0
     clear hq0
     cases q2 with
     | true =>
      have hfirst : Aside0 (firstL l = l.take pos) := ⟨by unfold firstL; rw [if_neg hne, hhead, ← hq.out, if_pos rfl]⟩
      go_wp2_with (first | ((with_reducible refine gate_callee (f := 75) rfl ?_); refine goesL_ (some 20) rfl rfl Tryz.func75 (by kernel_rfl) rfl #[.int .i32 _] rfl (by (try simp only [List.map_toArray, List.map_cons, List.map_nil]); first | done | rfl | (simp only [List.length_drop, List.length_take]; rfl)) ?_; (with_reducible refine (lexis_wordly.calls _ false _ hwd).mono ?_); rintro e w' ⟨rfl, ⟨nd, rfl⟩⟩; refine ⟨_, rfl, ?_⟩) | ((with_reducible refine gate_callee (f := 60) rfl ?_); refine goesL_ (some 30) rfl rfl Tryz.func60 (by kernel_rfl) rfl #[.string (a0.extract 0 pos)] rfl (by (try simp only [List.map_toArray, List.map_cons, List.map_nil]); first | done | rfl | (simp only [List.length_drop, List.length_take]; rfl)) ?_; (with_reducible refine (lexis_Sort.calls ks (a0.extract 0 pos) q1 true _ hks ⟨Laid.later HT.out (by repeat (first | (with_reducible first | exact HB.out | apply below_alloc | apply pw_below_drewN | apply below_drew1) | exact HB.out))⟩).mono ?_); rintro e w4 ⟨rfl, hb4⟩; refine ⟨_, rfl, ?_⟩; have n1_ := Aside0.mk (below_step (by repeat (first | (with_reducible first | exact HB.out | apply below_alloc | apply pw_below_drewN | apply below_drew1) | exact HB.out)) hb4); clear HB; have HB := n1_; clear n1_))
      rw [Exit.noGoto_ret]
      go_ret
      exact ⟨by rw [← hl.out, hfirst.out, ← hex.out]; rfl, by repeat (first | (with_reducible first | exact HB.out | apply below_alloc | apply pw_below_drewN | apply below_drew1) | exact HB.out)⟩
     | false =>
      have hfirst : Aside0 (firstL l = []) := ⟨by unfold firstL; rw [if_neg hne, hhead, ← hq.out, if_neg Bool.false_ne_true]⟩
      go_wp2_with (first | ((with_reducible refine gate_callee (f := 75) rfl ?_); refine goesL_ (some 20) rfl rfl Tryz.func75 (by kernel_rfl) rfl #[.int .i32 _] rfl (by (try simp only [List.map_toArray, List.map_cons, List.map_nil]); first | done | rfl | (simp only [List.length_drop, List.length_take]; rfl)) ?_; (with_reducible refine (lexis_wordly.calls _ false _ hwd).mono ?_); rintro e w' ⟨rfl, ⟨nd, rfl⟩⟩; refine ⟨_, rfl, ?_⟩) | ((with_reducible refine gate_callee (f := 60) rfl ?_); refine goesL_ (some 30) rfl rfl Tryz.func60 (by kernel_rfl) rfl #[.string (a0.extract 0 pos)] rfl (by (try simp only [List.map_toArray, List.map_cons, List.map_nil]); first | done | rfl | (simp only [List.length_drop, List.length_take]; rfl)) ?_; (with_reducible refine (lexis_Sort.calls ks (a0.extract 0 pos) q1 false _ hks ⟨Laid.later HT.out (by repeat (first | (with_reducible first | exact HB.out | apply below_alloc | apply pw_below_drewN | apply below_drew1) | exact HB.out))⟩).mono ?_); rintro e w4 ⟨rfl, hb4⟩; refine ⟨_, rfl, ?_⟩; have n1_ := Aside0.mk (below_step (by repeat (first | (with_reducible first | exact HB.out | apply below_alloc | apply pw_below_drewN | apply below_drew1) | exact HB.out)) hb4); clear HB; have HB := n1_; clear n1_))
      rw [Exit.noGoto_ret]
      go_ret
      exact ⟨by rw [← hl.out, hfirst.out]; rfl, by repeat (first | (with_reducible first | exact HB.out | apply below_alloc | apply pw_below_drewN | apply below_drew1) | exact HB.out)⟩
    ·have hz : Aside0 (pos = 0) := ⟨by omega⟩
     have hfirst : Aside0 (firstL l = signL l) := ⟨by unfold firstL; rw [if_pos (by rw [hhead, hz.out]; rfl)]⟩
     have he0 : Aside0 (a0.extract 0 pos = bytesB []) := ⟨by rw [hex.out, hz.out]; rfl⟩
     go_wp2_with (first | ((with_reducible refine gate_callee (f := 75) rfl ?_); refine goesL_ (some 20) rfl rfl Tryz.func75 (by kernel_rfl) rfl #[.int .i32 _] rfl (by (try simp only [List.map_toArray, List.map_cons, List.map_nil]); first | done | rfl | (simp only [List.length_drop, List.length_take]; rfl)) ?_; (with_reducible refine (lexis_wordly.calls _ false _ hwd).mono ?_); rintro e w' ⟨rfl, ⟨nd, rfl⟩⟩; refine ⟨_, rfl, ?_⟩))
     go_wp2
     go_step3
     go_wp2_with (first | ((with_reducible refine gate_callee (f := 76) rfl ?_); refine goesL_ (some 36) rfl rfl Tryz.func76 (by kernel_rfl) rfl #[.string (⟨#[40, 32, 41, 32, 91, 32, 93, 32, 123, 32, 125, 32, 60, 32, 62, 32, 33, 32, 63, 32, 38, 32, 124, 32, 43, 32, 59, 32, 42, 32, 45, 62, 32, 60, 45, 62]⟩ : ByteArray)] rfl (by (try simp only [List.map_toArray, List.map_cons, List.map_nil]); first | done | rfl | (simp only [List.length_drop, List.length_take]; rfl)) ?_; (with_reducible refine (strings_Fields.calls (⟨#[40, 32, 41, 32, 91, 32, 93, 32, 123, 32, 125, 32, 60, 32, 62, 32, 33, 32, 63, 32, 38, 32, 124, 32, 43, 32, 59, 32, 42, 32, 45, 62, 32, 60, 45, 62]⟩ : ByteArray) ts _ hfs ⟨Laid.later HT.out (by repeat (first | (with_reducible first | exact HB.out | apply below_alloc | apply pw_below_drewN | apply below_drew1) | exact HB.out))⟩).mono ?_); rintro e w4 ⟨v105, rfl, ho0, hb4⟩; refine ⟨_, rfl, ?_⟩; have n0_ := Aside0.mk (Kd.R_lower ho0 (below_size (by repeat (first | (with_reducible first | exact HB.out | apply below_alloc | apply pw_below_drewN | apply below_drew1) | exact HB.out)))); have n1_ := Aside0.mk (below_step (by repeat (first | (with_reducible first | exact HB.out | apply below_alloc | apply pw_below_drewN | apply below_drew1) | exact HB.out)) hb4); clear HB; have HO := n0_; have HB := n1_; clear n0_ n1_; obtain ⟨Ao, co, eo⟩ := Kd.R_slice HO.out; subst eo))
     go_loopg [6, 38] 17 (fun kq v6 v38 w' => ∃ (b : Bs) (i : Nat) (z : Int), v6 = .string (bytesB b) ∧ v38 = .int .i64 z ∧ Aside0 (z = (i : Int) ∧ i + kq = 17) ∧ Aside0 ((signs.drop i).foldl (longer l) b = signL l) ∧ Aside0 (Kd.R Kd.string 9 w' w.heap.size (fun _ => True) (.slice Ao ts.length co) ts) ∧ Aside0 (Below w.heap.size w w'))
     case atStart => exact ⟨[], 0, 0, by rw [he0.out], rfl, ⟨rfl, rfl⟩, ⟨rfl⟩, ⟨by (with_reducible repeat (first | apply Kd.R_alloc | apply Kd.R_drewN | apply Kd.R_drew)); exact HO.out⟩, ⟨by repeat (first | (with_reducible first | exact HB.out | apply below_alloc | apply pw_below_drewN | apply below_drew1) | exact HB.out)⟩⟩
     case round =>
      clear HO HB
      obtain ⟨b, i, z, rfl, rfl, hz17, hf00, HO, HB⟩ := hrel
      have hi17 : i ≤ 17 := by have := hz17.out.2; omega
      have hf0 := hf00.out
      clear hf00
      cases gk with
      | zero =>
       have cend : decide (z < (ts.length : Int)) = false := by rw [hts.out.1, hz17.out.1, show i = 17 by have := hz17.out.2; omega]; rfl
       have hbb : b = signL l := by rw [show i = 17 by have := hz17.out.2; omega] at hf0; exact hf0
       go_wp2
       rw [Exit.noGoto_ret]
       go_ret
       exact ⟨by rw [← hl.out, hfirst.out, ← hbb]; rfl, by repeat (first | (with_reducible first | exact HB.out | apply below_alloc | apply pw_below_drewN | apply below_drew1) | exact HB.out)⟩
      | succ k1 =>
       have hi : i < signs.length := by rw [signs_len]; have := hz17.out.2; omega
       obtain ⟨x, hx0⟩ : ∃ x, x = signs[i] := ⟨_, rfl⟩
       have hw : Aside0 (wrap64 (z + 1) = ((i + 1 : Nat) : Int)) := ⟨by have h7 := hz17.out.1; clear hsz0 hpl hlen hsz; unfold wrap64; omega⟩
       have hr : rdOf ByteArray.empty ts z = bytesB x := by rw [hx0, hz17.out.1]; exact hts.out.2 i hi
       rw [List.drop_eq_getElem_cons hi, List.foldl_cons, ← hx0, show i + 1 = i + 1 from rfl] at hf0
       clear hx0
       have p107 : 0 ≤ z := by rw [hz17.out.1]; omega
       have q107 : z < (ts.length : Int) := by rw [hts.out.1, hz17.out.1]; rw [signs_len] at hi; omega
       have cin : decide (z < (ts.length : Int)) = true := decide_eq_true q107
       obtain ⟨ad107, e107, hx107⟩ := Kd.at_string (Kd.R_reads' HO.out).2.2 z p107 q107
       cases e107
       rw [hr] at hx107
       replace p107 := eq_true p107
       replace q107 := eq_true q107
       by_cases c1 : ((bytesB x).size : Int) ≤ ((bytesB b).size : Int)
       ·have c1b : decide (((bytesB x).size : Int) ≤ ((bytesB b).size : Int)) = true := decide_eq_true c1
        have hf1 : Aside0 ((signs.drop (i + 1)).foldl (longer l) b = signL l) := ⟨by rw [← hf0]; unfold longer; rw [if_pos (by rw [← size_bytesB, ← size_bytesB]; omega)]⟩
        go_wp2
        go_roundg k1
        case measure => omega
        case rel => exact ⟨b, i + 1, _, rfl, rfl, ⟨hw.out, by have := hz17.out.2; omega⟩, hf1, ⟨by (with_reducible repeat (first | apply Kd.R_alloc | apply Kd.R_drewN | apply Kd.R_drew)); exact HO.out⟩, ⟨by repeat (first | (with_reducible first | exact HB.out | apply below_alloc | apply pw_below_drewN | apply below_drew1) | exact HB.out)⟩⟩
       ·have c1b : decide (((bytesB x).size : Int) ≤ ((bytesB b).size : Int)) = false := decide_eq_false c1
        cases c2 : x.isPrefixOf l with
        | true =>
         have hpf := prefix_f a0 x
         rw [← hl.out, c2] at hpf
         have hf1 : Aside0 ((signs.drop (i + 1)).foldl (longer l) x = signL l) := ⟨by rw [← hf0]; unfold longer; rw [if_neg (by rw [← size_bytesB, ← size_bytesB]; omega), if_pos c2]⟩
         go_wp2_with (first | ((with_reducible refine gate_callee (f := 77) rfl ?_); refine goesL_ (some 49) rfl rfl Tryz.func77 (by kernel_rfl) rfl #[.string a0, .string (bytesB x)] rfl (by (try simp only [List.map_toArray, List.map_cons, List.map_nil]); first | done | rfl | (simp only [List.length_drop, List.length_take]; rfl)) ?_; (with_reducible refine (strings_HasPrefix.calls a0 (bytesB x) true _ hpf).mono ?_); rintro e w' ⟨rfl, ⟨nd, rfl⟩⟩; refine ⟨_, rfl, ?_⟩))
         go_roundg k1
         case measure => omega
         case rel => exact ⟨x, i + 1, _, rfl, rfl, ⟨hw.out, by have := hz17.out.2; omega⟩, hf1, ⟨by (with_reducible repeat (first | apply Kd.R_alloc | apply Kd.R_drewN | apply Kd.R_drew)); exact HO.out⟩, ⟨by repeat (first | (with_reducible first | exact HB.out | apply below_alloc | apply pw_below_drewN | apply below_drew1) | exact HB.out)⟩⟩
        | false =>
         have hpf := prefix_f a0 x
         rw [← hl.out, c2] at hpf
         have hf1 : Aside0 ((signs.drop (i + 1)).foldl (longer l) b = signL l) := ⟨by rw [← hf0]; unfold longer; rw [if_neg (by rw [← size_bytesB, ← size_bytesB]; omega), if_neg (by rw [c2]; exact Bool.false_ne_true)]⟩
         go_wp2_with (first | ((with_reducible refine gate_callee (f := 77) rfl ?_); refine goesL_ (some 49) rfl rfl Tryz.func77 (by kernel_rfl) rfl #[.string a0, .string (bytesB x)] rfl (by (try simp only [List.map_toArray, List.map_cons, List.map_nil]); first | done | rfl | (simp only [List.length_drop, List.length_take]; rfl)) ?_; (with_reducible refine (strings_HasPrefix.calls a0 (bytesB x) false _ hpf).mono ?_); rintro e w' ⟨rfl, ⟨nd, rfl⟩⟩; refine ⟨_, rfl, ?_⟩))
         go_roundg k1
         case measure => omega
         case rel => exact ⟨b, i + 1, _, rfl, rfl, ⟨hw.out, by have := hz17.out.2; omega⟩, hf1, ⟨by (with_reducible repeat (first | apply Kd.R_alloc | apply Kd.R_drewN | apply Kd.R_drew)); exact HO.out⟩, ⟨by repeat (first | (with_reducible first | exact HB.out | apply below_alloc | apply pw_below_drewN | apply below_drew1) | exact HB.out)⟩⟩
  ·have hnx : ∀ ty, (Instr.next (.pointer (some ⟨w.heap.size, 0, none⟩)) true ty).run Tryz.prog wr = _ := fun ty => Lib.run_next_end_at wr w.heap.size a0 pos ty hit hp
   have HB := Aside0.mk hb
   have hpe : pos = a0.size := by omega
   have hhead : headL l = l.take a0.size := take_all l a0.size (by rw [← hpe]; exact hall) (fun d hd => by rw [List.getElem?_eq_none (by rw [hl.out, hsz]; exact Nat.le_refl _)] at hd; cases hd)
   have hex0 := extract_take a0 a0.size (Nat.le_refl _)
   rw [← hl.out, extract_all] at hex0
   have hex := Aside0.mk hex0
   clear hex0
   have hex0 := eq_true (show (0 : Int) ≤ (a0.size : Int) by omega)
   have hex1 := eq_true (show (a0.size : Int) ≤ (a0.size : Int) by omega)
   by_cases h0 : 0 < a0.size
   ·have hne : headL l ≠ [] := by rw [hhead]; intro e; have := congrArg List.length e; rw [List.length_take, List.length_nil] at this; omega
    have hE := sort_ev (bytesB (l.take a0.size))
    obtain ⟨ks, hks⟩ := Ev.rounds hE
    rw [show (bytesB (l.take a0.size)).data.toList = l.take a0.size from rfl, ← hex.out] at hks
    obtain ⟨⟨q1, q2⟩, hq0⟩ : ∃ q, q = sortL (l.take a0.size) := ⟨_, rfl⟩
    rw [← hq0] at hks
    have hq := Aside0.mk hq0
    clear hq0
    cases q2 with
    | true =>
     have hfirst : Aside0 (firstL l = l.take a0.size) := ⟨by unfold firstL; rw [if_neg hne, hhead, ← hq.out, if_pos rfl]⟩
     go_wp2_with (first | fail | ((with_reducible refine gate_callee (f := 60) rfl ?_); refine goesL_ (some 30) rfl rfl Tryz.func60 (by kernel_rfl) rfl #[.string a0] rfl (by (try simp only [List.map_toArray, List.map_cons, List.map_nil]); first | done | rfl | (simp only [List.length_drop, List.length_take]; rfl)) ?_; (with_reducible refine (lexis_Sort.calls ks a0 q1 true _ hks ⟨Laid.later HT.out (by repeat (first | (with_reducible first | exact HB.out | apply below_alloc | apply pw_below_drewN | apply below_drew1) | exact HB.out))⟩).mono ?_); rintro e w4 ⟨rfl, hb4⟩; refine ⟨_, rfl, ?_⟩; have n1_ := Aside0.mk (below_step (by repeat (first | (with_reducible first | exact HB.out | apply below_alloc | apply pw_below_drewN | apply below_drew1) | exact HB.out)) hb4); clear HB; have HB := n1_; clear n1_))
     rw [Exit.noGoto_ret]
     go_ret
     exact ⟨by rw [← hl.out, hfirst.out, ← hex.out]; rfl, by repeat (first | (with_reducible first | exact HB.out | apply below_alloc | apply pw_below_drewN | apply below_drew1) | exact HB.out)⟩
    | false =>
     have hfirst : Aside0 (firstL l = []) := ⟨by unfold firstL; rw [if_neg hne, hhead, ← hq.out, if_neg Bool.false_ne_true]⟩
     go_wp2_with (first | fail | ((with_reducible refine gate_callee (f := 60) rfl ?_); refine goesL_ (some 30) rfl rfl Tryz.func60 (by kernel_rfl) rfl #[.string a0] rfl (by (try simp only [List.map_toArray, List.map_cons, List.map_nil]); first | done | rfl | (simp only [List.length_drop, List.length_take]; rfl)) ?_; (with_reducible refine (lexis_Sort.calls ks a0 q1 false _ hks ⟨Laid.later HT.out (by repeat (first | (with_reducible first | exact HB.out | apply below_alloc | apply pw_below_drewN | apply below_drew1) | exact HB.out))⟩).mono ?_); rintro e w4 ⟨rfl, hb4⟩; refine ⟨_, rfl, ?_⟩; have n1_ := Aside0.mk (below_step (by repeat (first | (with_reducible first | exact HB.out | apply below_alloc | apply pw_below_drewN | apply below_drew1) | exact HB.out)) hb4); clear HB; have HB := n1_; clear n1_))
     rw [Exit.noGoto_ret]
     go_ret
     exact ⟨by rw [← hl.out, hfirst.out]; rfl, by repeat (first | (with_reducible first | exact HB.out | apply below_alloc | apply pw_below_drewN | apply below_drew1) | exact HB.out)⟩
   ·have hz : Aside0 (a0.size = 0) := ⟨by omega⟩
    have hfirst : Aside0 (firstL l = signL l) := ⟨by unfold firstL; rw [if_pos (by rw [hhead, hz.out]; rfl)]⟩
    have he0 : Aside0 (a0 = bytesB []) := ⟨by rw [hex.out, hz.out]; rfl⟩
    go_wp2_with (first | fail)
    go_wp2
    go_step3
    go_wp2_with (first | ((with_reducible refine gate_callee (f := 76) rfl ?_); refine goesL_ (some 36) rfl rfl Tryz.func76 (by kernel_rfl) rfl #[.string (⟨#[40, 32, 41, 32, 91, 32, 93, 32, 123, 32, 125, 32, 60, 32, 62, 32, 33, 32, 63, 32, 38, 32, 124, 32, 43, 32, 59, 32, 42, 32, 45, 62, 32, 60, 45, 62]⟩ : ByteArray)] rfl (by (try simp only [List.map_toArray, List.map_cons, List.map_nil]); first | done | rfl | (simp only [List.length_drop, List.length_take]; rfl)) ?_; (with_reducible refine (strings_Fields.calls (⟨#[40, 32, 41, 32, 91, 32, 93, 32, 123, 32, 125, 32, 60, 32, 62, 32, 33, 32, 63, 32, 38, 32, 124, 32, 43, 32, 59, 32, 42, 32, 45, 62, 32, 60, 45, 62]⟩ : ByteArray) ts _ hfs ⟨Laid.later HT.out (by repeat (first | (with_reducible first | exact HB.out | apply below_alloc | apply pw_below_drewN | apply below_drew1) | exact HB.out))⟩).mono ?_); rintro e w4 ⟨v105, rfl, ho0, hb4⟩; refine ⟨_, rfl, ?_⟩; have n0_ := Aside0.mk (Kd.R_lower ho0 (below_size (by repeat (first | (with_reducible first | exact HB.out | apply below_alloc | apply pw_below_drewN | apply below_drew1) | exact HB.out)))); have n1_ := Aside0.mk (below_step (by repeat (first | (with_reducible first | exact HB.out | apply below_alloc | apply pw_below_drewN | apply below_drew1) | exact HB.out)) hb4); clear HB; have HO := n0_; have HB := n1_; clear n0_ n1_; obtain ⟨Ao, co, eo⟩ := Kd.R_slice HO.out; subst eo))
    go_loopg [6, 38] 17 (fun kq v6 v38 w' => ∃ (b : Bs) (i : Nat) (z : Int), v6 = .string (bytesB b) ∧ v38 = .int .i64 z ∧ Aside0 (z = (i : Int) ∧ i + kq = 17) ∧ Aside0 ((signs.drop i).foldl (longer l) b = signL l) ∧ Aside0 (Kd.R Kd.string 9 w' w.heap.size (fun _ => True) (.slice Ao ts.length co) ts) ∧ Aside0 (Below w.heap.size w w'))
    case atStart => exact ⟨[], 0, 0, by rw [he0.out], rfl, ⟨rfl, rfl⟩, ⟨rfl⟩, ⟨by (with_reducible repeat (first | apply Kd.R_alloc | apply Kd.R_drewN | apply Kd.R_drew)); exact HO.out⟩, ⟨by repeat (first | (with_reducible first | exact HB.out | apply below_alloc | apply pw_below_drewN | apply below_drew1) | exact HB.out)⟩⟩
    case round =>
     clear HO HB
     obtain ⟨b, i, z, rfl, rfl, hz17, hf00, HO, HB⟩ := hrel
     have hi17 : i ≤ 17 := by have := hz17.out.2; omega
     have hf0 := hf00.out
     clear hf00
     cases gk with
     | zero =>
      have cend : decide (z < (ts.length : Int)) = false := by rw [hts.out.1, hz17.out.1, show i = 17 by have := hz17.out.2; omega]; rfl
      have hbb : b = signL l := by rw [show i = 17 by have := hz17.out.2; omega] at hf0; exact hf0
      go_wp2
      rw [Exit.noGoto_ret]
      go_ret
      exact ⟨by rw [← hl.out, hfirst.out, ← hbb]; rfl, by repeat (first | (with_reducible first | exact HB.out | apply below_alloc | apply pw_below_drewN | apply below_drew1) | exact HB.out)⟩
     | succ k1 =>
      have hi : i < signs.length := by rw [signs_len]; have := hz17.out.2; omega
      obtain ⟨x, hx0⟩ : ∃ x, x = signs[i] := ⟨_, rfl⟩
      have hw : Aside0 (wrap64 (z + 1) = ((i + 1 : Nat) : Int)) := ⟨by have h7 := hz17.out.1; clear hsz0 hpl hlen hsz; unfold wrap64; omega⟩
      have hr : rdOf ByteArray.empty ts z = bytesB x := by rw [hx0, hz17.out.1]; exact hts.out.2 i hi
      rw [List.drop_eq_getElem_cons hi, List.foldl_cons, ← hx0, show i + 1 = i + 1 from rfl] at hf0
      clear hx0
      have p107 : 0 ≤ z := by rw [hz17.out.1]; omega
      have q107 : z < (ts.length : Int) := by rw [hts.out.1, hz17.out.1]; rw [signs_len] at hi; omega
      have cin : decide (z < (ts.length : Int)) = true := decide_eq_true q107
      obtain ⟨ad107, e107, hx107⟩ := Kd.at_string (Kd.R_reads' HO.out).2.2 z p107 q107
      cases e107
      rw [hr] at hx107
      replace p107 := eq_true p107
      replace q107 := eq_true q107
      by_cases c1 : ((bytesB x).size : Int) ≤ ((bytesB b).size : Int)
      ·have c1b : decide (((bytesB x).size : Int) ≤ ((bytesB b).size : Int)) = true := decide_eq_true c1
       have hf1 : Aside0 ((signs.drop (i + 1)).foldl (longer l) b = signL l) := ⟨by rw [← hf0]; unfold longer; rw [if_pos (by rw [← size_bytesB, ← size_bytesB]; omega)]⟩
       go_wp2
       go_roundg k1
       case measure => omega
       case rel => exact ⟨b, i + 1, _, rfl, rfl, ⟨hw.out, by have := hz17.out.2; omega⟩, hf1, ⟨by (with_reducible repeat (first | apply Kd.R_alloc | apply Kd.R_drewN | apply Kd.R_drew)); exact HO.out⟩, ⟨by repeat (first | (with_reducible first | exact HB.out | apply below_alloc | apply pw_below_drewN | apply below_drew1) | exact HB.out)⟩⟩
      ·have c1b : decide (((bytesB x).size : Int) ≤ ((bytesB b).size : Int)) = false := decide_eq_false c1
       cases c2 : x.isPrefixOf l with
       | true =>
        have hpf := prefix_f a0 x
        rw [← hl.out, c2] at hpf
        have hf1 : Aside0 ((signs.drop (i + 1)).foldl (longer l) x = signL l) := ⟨by rw [← hf0]; unfold longer; rw [if_neg (by rw [← size_bytesB, ← size_bytesB]; omega), if_pos c2]⟩
        go_wp2_with (first | ((with_reducible refine gate_callee (f := 77) rfl ?_); refine goesL_ (some 49) rfl rfl Tryz.func77 (by kernel_rfl) rfl #[.string a0, .string (bytesB x)] rfl (by (try simp only [List.map_toArray, List.map_cons, List.map_nil]); first | done | rfl | (simp only [List.length_drop, List.length_take]; rfl)) ?_; (with_reducible refine (strings_HasPrefix.calls a0 (bytesB x) true _ hpf).mono ?_); rintro e w' ⟨rfl, ⟨nd, rfl⟩⟩; refine ⟨_, rfl, ?_⟩))
        go_roundg k1
        case measure => omega
        case rel => exact ⟨x, i + 1, _, rfl, rfl, ⟨hw.out, by have := hz17.out.2; omega⟩, hf1, ⟨by (with_reducible repeat (first | apply Kd.R_alloc | apply Kd.R_drewN | apply Kd.R_drew)); exact HO.out⟩, ⟨by repeat (first | (with_reducible first | exact HB.out | apply below_alloc | apply pw_below_drewN | apply below_drew1) | exact HB.out)⟩⟩
       | false =>
        have hpf := prefix_f a0 x
        rw [← hl.out, c2] at hpf
        have hf1 : Aside0 ((signs.drop (i + 1)).foldl (longer l) b = signL l) := ⟨by rw [← hf0]; unfold longer; rw [if_neg (by rw [← size_bytesB, ← size_bytesB]; omega), if_neg (by rw [c2]; exact Bool.false_ne_true)]⟩
        go_wp2_with (first | ((with_reducible refine gate_callee (f := 77) rfl ?_); refine goesL_ (some 49) rfl rfl Tryz.func77 (by kernel_rfl) rfl #[.string a0, .string (bytesB x)] rfl (by (try simp only [List.map_toArray, List.map_cons, List.map_nil]); first | done | rfl | (simp only [List.length_drop, List.length_take]; rfl)) ?_; (with_reducible refine (strings_HasPrefix.calls a0 (bytesB x) false _ hpf).mono ?_); rintro e w' ⟨rfl, ⟨nd, rfl⟩⟩; refine ⟨_, rfl, ?_⟩))
        go_roundg k1
        case measure => omega
        case rel => exact ⟨b, i + 1, _, rfl, rfl, ⟨hw.out, by have := hz17.out.2; omega⟩, hf1, ⟨by (with_reducible repeat (first | apply Kd.R_alloc | apply Kd.R_drewN | apply Kd.R_drew)); exact HO.out⟩, ⟨by repeat (first | (with_reducible first | exact HB.out | apply below_alloc | apply pw_below_drewN | apply below_drew1) | exact HB.out)⟩⟩
end Go.Proofs.YtaogoabnidbbpaaGreatDoor.PText
namespace Go.Proofs.YtaogoabnidbbpaaGreatDoor.PText
open Go.RowKit Go.Proofs.YtaogoabnidbbpaaGreatDoorW.PrintWords Go.Proofs.YtaogoabnidbbpaaGreatDoorW.PrintLast Go.Proofs.YtaogoabnidbbpaaGreatDoorW.PrintMore
set_option linter.unusedVariables false
set_option linter.unusedSimpArgs false
attribute [local go_sem] max2_int min2_int max_two min_two max_three min_three max_four min_four
def lexis_Words.l0 : Nat → ByteArray → List (S114) → Int → Option ((List (S114)) × Int × Int)
 | 0, _, _, _ => none
 | k + 1, x0, x4, x5 => if x5 < (x0.size : Int) then (if 0 ≤ x5 then (if (bt x0 x5) = 32 then (lexis_Words.l0 k x0 x4 (wrap64 (x5 + 1))) else (if x5 ≤ (x0.size : Int) then ((lexis_first.f (x0.extract (x5 : Int).toNat x0.size)).bind fun t273 => (if t273.toList = ([] : List UInt8) then (some (([] : List (S114)), 140, x5)) else ((lexis_Sort.f k t273).bind fun bt274 => (if x4.length < 4398046511104 then (lexis_Words.l0 k x0 (x4 ++ [(⟨bt274.1, t273, x5⟩ : S114)]) (wrap64 (x5 + (t273.size : Int)))) else (none))))) else (none))) else (none)) else (some (x4, 0, 0))
def lexis_Words.f (k : Nat) (a0 : ByteArray) : Option ((List (S114)) × Int × Int) := if (a0.size : Int) > 4096 then (some (([] : List (S114)), 3, (-1))) else (lexis_Words.l0 k a0 ([] : List (S114)) 0)
theorem lexis_Words.mono_l : ∀ k, (∀ y0 y1 y2, LeO (lexis_Words.l0 k y0 y1 y2) (lexis_Words.l0 (k + 1) y0 y1 y2))
 | 0 => fun _ _ _ r h => by simp [lexis_Words.l0] at h
 | k + 1 => by
  have ih0 := lexis_Words.mono_l k
  ·intro y0 y1 y2
   unfold lexis_Words.l0
   repeat' first
   | (with_reducible exact ih0 _ _ _)
   | (with_reducible exact lexis_Sort.mono _ _)
   | (with_reducible exact LeO.refl _)
   | (with_reducible exact LeO.none _)
   | (with_reducible refine LeO.ite ?_ ?_)
   | (with_reducible refine LeO.bind ?_ (fun _ => ?_))
   | exact ih0 _ _ _
   | exact lexis_Sort.mono _ _
   | exact LeO.none _
   | refine LeO.ite ?_ ?_
   | refine LeO.bind ?_ (fun _ => ?_)
theorem lexis_Words.mono : ∀ a0 k, LeO (lexis_Words.f k a0) (lexis_Words.f (k + 1) a0) := by
 intro a0 k
 have ih0 := lexis_Words.mono_l k
 unfold lexis_Words.f
 repeat' first
   | (with_reducible exact ih0 _ _ _)
   | (with_reducible exact lexis_Sort.mono _ _)
   | (with_reducible exact LeO.refl _)
   | (with_reducible exact LeO.none _)
   | (with_reducible refine LeO.ite ?_ ?_)
   | (with_reducible refine LeO.bind ?_ (fun _ => ?_))
   | exact ih0 _ _ _
   | exact lexis_Sort.mono _ _
   | exact LeO.none _
   | refine LeO.ite ?_ ?_
   | refine LeO.bind ?_ (fun _ => ?_)
set_option maxHeartbeats 8000000 in
set_option maxRecDepth 100000 in
theorem lexis_Words.calls (k : Nat) (a0 : ByteArray) (r1 : List (S114)) (r2 : Int) (r3 : Int) (w : World) (h : lexis_Words.f k a0 = some (r1, r2, r3)) (HT : Aside0 (Laid w) := by exact ⟨Laid.later HT.out (by repeat (first | (with_reducible first | exact HB.out | apply below_alloc | apply pw_below_drewN | apply below_drew1) | exact HB.out))⟩) :
  Calls Tryz.prog 45 #[.string a0] w fun e w' => ∃ v0_ : Value, e = .returned (.tuple #[v0_, .agg #[.int .i64 r2, .int .i64 r3]]) ∧ Kd.R k114 114 w' w.heap.size (fun _ => True) v0_ r1 ∧ Below w.heap.size w w' := by
 have hu31 := Tryz.underlying31
 have hu114 := Tryz.underlying114
 have HB := Aside0.mk (Below.refl w.heap.size w)
 have H : (if (a0.size : Int) > 4096 then (some (([] : List (S114)), 3, (-1))) else (lexis_Words.l0 k a0 ([] : List (S114)) 0)) = some (r1, r2, r3) := h
 clear h
 by_cases c2 : (a0.size : Int) > 4096
 ·rw [if_pos c2] at H
  have c2b0 : decide (4096 < (a0.size : Int)) = true := decide_eq_true c2
  have c2b1 : decide (4096 < a0.size) = true := decide_eq_true (by omega)
  clear c2
  simp only [Option.some.injEq, Prod.mk.injEq] at H
  obtain ⟨rfl, rfl, rfl⟩ := H
  go_enter Tryz.func45, Tryz.ntmps45
  go_wp2_with (first | ((with_reducible refine gate_dst (N := 3) rfl ?_); refine box_event ?hg (N := 3) ?hd (cs := #[.int .i64 0, .int .i64 0]) (t := 31) ?hr ?_; (case hd => rfl); (case hg => rfl); (case hr => first | (go_simp; done) | (go_simp; rfl)); intro gb272 hg w3 hbox hb; have n0_ := Aside0.mk (below_step (by repeat (first | (with_reducible first | exact HB.out | apply below_alloc | apply pw_below_drewN | apply below_drew1) | exact HB.out)) hb); have n1_ := Aside0.mk (hbox); have n2_ := Aside0.mk ((by rw [hg]; exact (below_size (by repeat (first | (with_reducible first | exact HB.out | apply below_alloc | apply pw_below_drewN | apply below_drew1) | exact HB.out))) : w.heap.size ≤ gb272)); have n3_ := Aside0.mk ((by rw [hg]; exact (below_size (by repeat (first | (with_reducible first | exact HB.out | apply below_alloc | apply pw_below_drewN | apply below_drew1) | exact HB.out))) : w.heap.size ≤ gb272)); clear HB; have HB := n0_; have BK272 := n1_; have GW272 := n2_; have GE272 := n3_; clear n0_ n1_ n2_ n3_; clear hb hbox hg; have hcz4_0 : w3.cell? ⟨gb272, 0, none⟩ = some (.int .i64 0) := (blk_cell BK272.out 0).trans rfl; have hcz4_1 : w3.cell? ⟨gb272, 1, none⟩ = some (.int .i64 0) := (blk_cell BK272.out 1).trans rfl; have hfz4_0 := blk_frozen BK272.out 0; have hfz4_1 := blk_frozen BK272.out 1))
  refine bodyPost_ret (results_tc rfl _ _ gb272 31 #[.int .i64 3, .int .i64 (-1)] (0, 0) _ rfl (by (with_reducible repeat (first | refine blk_drewN ?_ _ | refine blk_drew ?_ | refine blk_alloc ?_ _)); refine blk_put (cs := #[.int .i64 3, .int .i64 0]) ?_ 1 _ rfl; (with_reducible repeat (first | refine blk_drewN ?_ _ | refine blk_drew ?_ | refine blk_alloc ?_ _)); refine blk_put (cs := #[.int .i64 0, .int .i64 0]) ?_ 0 _ rfl; (with_reducible repeat (first | refine blk_drewN ?_ _ | refine blk_drew ?_ | refine blk_alloc ?_ _)); exact BK272.out) Tryz.underlying31 rfl (by kernel_rfl)) rfl ?_
  exact ⟨_, by first | rfl | (simp [errW_none, errW_some] <;> rfl) | (simp [*, errW_none, errW_some] <;> rfl), by first | exact Kd.R_nil _ _ _ _ _ | exact Kd.N_nil _ _ _ _ _ | exact Kd.V_nil _ _ _ _ _ | exact Kd.Q_nil _ _ _ _ _ | exact Kd.S_nil _ _ _ _ _, by repeat (first | (with_reducible first | exact HB.out | apply below_alloc | apply pw_below_drewN | apply below_drew1 | refine below_set ?_ GE272.out) | exact HB.out)⟩
 ·rw [if_neg c2] at H
  have c2b0 : decide (4096 < (a0.size : Int)) = false := decide_eq_false c2
  have c2b1 : decide (4096 < a0.size) = false := decide_eq_false (by omega)
  clear c2
  have H' := Aside0.mk H
  clear H
  go_enter Tryz.func45, Tryz.ntmps45
  go_wp2_with (first | ((with_reducible refine gate_dst (N := 3) rfl ?_); refine box_event ?hg (N := 3) ?hd (cs := #[.int .i64 0, .int .i64 0]) (t := 31) ?hr ?_; (case hd => rfl); (case hg => rfl); (case hr => first | (go_simp; done) | (go_simp; rfl)); intro gb272 hg w5 hbox hb; have n0_ := Aside0.mk (below_step (by repeat (first | (with_reducible first | exact HB.out | apply below_alloc | apply pw_below_drewN | apply below_drew1) | exact HB.out)) hb); have n1_ := Aside0.mk (hbox); have n2_ := Aside0.mk ((by rw [hg]; exact (below_size (by repeat (first | (with_reducible first | exact HB.out | apply below_alloc | apply pw_below_drewN | apply below_drew1) | exact HB.out))) : w.heap.size ≤ gb272)); have n3_ := Aside0.mk ((by rw [hg]; exact (below_size (by repeat (first | (with_reducible first | exact HB.out | apply below_alloc | apply pw_below_drewN | apply below_drew1) | exact HB.out))) : w.heap.size ≤ gb272)); clear HB; have HB := n0_; have BK272 := n1_; have GW272 := n2_; have GE272 := n3_; clear n0_ n1_ n2_ n3_; clear hb hbox hg))
  go_loopg [4, 5] k (fun kq v4 v5 w' => ∃ (x4_1 : List (S114)) (x5_1 : Int) (x273000_1 : Int) (x273001_1 : Int), v5 = .int .i64 x5_1 ∧ Aside0 (lexis_Words.l0 kq a0 x4_1 x5_1 = some (r1, r2, r3)) ∧ Aside0 (kq ≤ k) ∧ Aside0 (Kd.R k114 114 w' w.heap.size (fun _ => True) v4 x4_1) ∧ Aside0 (w'.heap[gb272]? = some (.cells #[.int .i64 x273000_1, .int .i64 x273001_1] 31 (0, 0))) ∧ Aside0 (Below w.heap.size w w'))
  case atStart => exact ⟨(([] : List (S114))), (0), (0), (0), (by first | rfl | (simp; done) | (simp [*]; done)), H', ⟨Nat.le_refl _⟩, ⟨by first | exact Kd.R_nil _ _ _ _ _ | exact Kd.N_nil _ _ _ _ _ | exact Kd.V_nil _ _ _ _ _ | exact Kd.Q_nil _ _ _ _ _ | exact Kd.S_nil _ _ _ _ _⟩, ⟨by (with_reducible repeat (first | refine blk_drewN ?_ _ | refine blk_drew ?_ | refine blk_alloc ?_ _)); exact BK272.out⟩, ⟨by repeat (first | (with_reducible first | exact HB.out | apply below_alloc | apply pw_below_drewN | apply below_drew1 | refine below_set ?_ GE272.out) | exact HB.out)⟩⟩
  case round =>
   clear H'
   try clear c2
   try clear c2b0
   try clear c2b1
   try clear p2
   try clear c4
   try clear hcz4_0
   try clear hcz4_1
   try clear hfz4_0
   try clear hfz4_1
   obtain ⟨x4_1, x5_1, x273000_1, x273001_1, rfl, HA, HK1, HO_4, BK272, HB⟩ := hrel
   cases gk with
   | zero => exact absurd HA.out (by simp [lexis_Words.l0])
   | succ k1 =>
    have H := HA.out
    clear HA
    simp only [lexis_Words.l0] at H
    by_cases c6 : x5_1 < (a0.size : Int)
    ·rw [if_pos c6] at H
     have c6b0 : decide (x5_1 < (a0.size : Int)) = true := decide_eq_true c6
     clear c6
     by_cases c7 : 0 ≤ x5_1
     ·rw [if_pos c7] at H
      have c7b0 : decide (0 ≤ x5_1) = true := decide_eq_true c7
      clear c7
      by_cases c9 : (bt a0 x5_1) = 32
      ·rw [if_pos c9] at H
       have c9b0 : ((bt a0 x5_1) == 32) = true := beq_iff_eq.mpr c9
       have c9b1 : ((bt a0 x5_1) != 32) = false := bne_eq_false_iff_eq.mpr c9
       clear c9
       have H' := Aside0.mk H
       clear H
       have p8 : 0 ≤ (x5_1 : Int) := of_decide_eq_true (by first | (with_reducible assumption) | assumption)
       have q8 : x5_1 < (a0.size : Int) := of_decide_eq_true (by first | (with_reducible assumption) | assumption)
       have hx8 := bt_at a0 x5_1
       replace p8 := eq_true p8
       replace q8 := eq_true q8
       go_wp2
       go_roundg k1
       case measure => have := HK1.out; omega
       case rel => exact ⟨(x4_1), (wrap64 (x5_1 + 1)), (x273000_1), (x273001_1), (by first | rfl | (simp; done) | (simp [*]; done)), H', ⟨by have := HK1.out; omega⟩, ⟨by (with_reducible repeat (first | apply Kd.R_alloc | apply Kd.R_drewN | apply Kd.R_drew)); exact HO_4.out⟩, ⟨by (with_reducible repeat (first | refine blk_drewN ?_ _ | refine blk_drew ?_ | refine blk_alloc ?_ _)); exact BK272.out⟩, ⟨by repeat (first | (with_reducible first | exact HB.out | apply below_alloc | apply pw_below_drewN | apply below_drew1 | refine below_set ?_ GE272.out) | exact HB.out)⟩⟩
      ·rw [if_neg c9] at H
       have c9b0 : ((bt a0 x5_1) == 32) = false := beq_eq_false_iff_ne.mpr c9
       have c9b1 : ((bt a0 x5_1) != 32) = true := bne_iff_ne.mpr c9
       have c10b0 := eq_true (of_decide_eq_true (by first | (with_reducible assumption) | assumption) : 0 ≤ x5_1)
       by_cases c11 : x5_1 ≤ (a0.size : Int)
       ·rw [if_pos c11] at H
        have c11b0 := eq_true c11
        have c11b1 : decide (x5_1 ≤ (a0.size : Int)) = true := decide_eq_true c11
        clear c11
        replace H := Option.bind_eq_some_iff.mp H
        obtain ⟨t273, A120, H⟩ := H
        replace H : (if t273.toList = ([] : List UInt8) then (some (([] : List (S114)), 140, x5_1)) else ((lexis_Sort.f k1 t273).bind fun bt274 => (if x4_1.length < 4398046511104 then (lexis_Words.l0 k1 a0 (x4_1 ++ [(⟨bt274.1, t273, x5_1⟩ : S114)]) (wrap64 (x5_1 + (t273.size : Int)))) else (none)))) = some (r1, r2, r3) := H
        have A12 := Aside0.mk A120
        clear A120
        by_cases c13 : t273.toList = ([] : List UInt8)
        ·rw [if_pos c13] at H
         have c13b0 : (t273.toList == ([] : List UInt8)) = true := beq_iff_eq.mpr c13
         have c13b1 : (t273.toList != ([] : List UInt8)) = false := bne_eq_false_iff_eq.mpr c13
         clear c13
         simp only [Option.some.injEq, Prod.mk.injEq] at H
         obtain ⟨rfl, rfl, rfl⟩ := H
         have p8 : 0 ≤ (x5_1 : Int) := of_decide_eq_true (by first | (with_reducible assumption) | assumption)
         have q8 : x5_1 < (a0.size : Int) := of_decide_eq_true (by first | (with_reducible assumption) | assumption)
         have hx8 := bt_at a0 x5_1
         replace p8 := eq_true p8
         replace q8 := eq_true q8
         go_wp2_with (first | ((with_reducible refine gate_callee (f := 59) rfl ?_); refine goesL_ (some 26) rfl rfl Tryz.func59 (by kernel_rfl) rfl #[.string (a0.extract (x5_1 : Int).toNat a0.size)] rfl (by (try simp only [List.map_toArray, List.map_cons, List.map_nil]); first | done | rfl | (simp only [List.length_drop, List.length_take]; rfl)) ?_; (with_reducible refine (lexis_first.calls (a0.extract (x5_1 : Int).toNat a0.size) t273 _ A12.out).mono ?_); rintro e w14 ⟨rfl, hb⟩; refine ⟨_, rfl, ?_⟩; have n0_ := Aside0.mk (Kd.R_below (by (with_reducible repeat (first | apply Kd.R_alloc | apply Kd.R_drewN | apply Kd.R_drew)); exact HO_4.out) hb); have n1_ := Aside0.mk (blk_below (g := gb272) (o := .cells #[.int .i64 x273000_1, .int .i64 x273001_1] 31 (0, 0)) (by (with_reducible repeat (first | refine blk_drewN ?_ _ | refine blk_drew ?_ | refine blk_alloc ?_ _)); exact BK272.out) hb); have n2_ := Aside0.mk (below_step (by repeat (first | (with_reducible first | exact HB.out | apply below_alloc | apply pw_below_drewN | apply below_drew1 | refine below_set ?_ GE272.out) | exact HB.out)) hb); clear HO_4; clear BK272; clear HB; have HO_4 := n0_; have BK272 := n1_; have HB := n2_; clear n0_ n1_ n2_; (try clear hb); (try clear hb2); (try clear hk); (try clear hi); have hcz15_0 : w14.cell? ⟨gb272, 0, none⟩ = some (.int .i64 x273000_1) := (blk_cell BK272.out 0).trans rfl; have hcz15_1 : w14.cell? ⟨gb272, 1, none⟩ = some (.int .i64 x273001_1) := (blk_cell BK272.out 1).trans rfl; have hfz15_0 := blk_frozen BK272.out 0; have hfz15_1 := blk_frozen BK272.out 1))
         refine bodyPost_ret (results_tc rfl _ _ gb272 31 #[.int .i64 140, .int .i64 x5_1] (0, 0) _ rfl (by (with_reducible repeat (first | refine blk_drewN ?_ _ | refine blk_drew ?_ | refine blk_alloc ?_ _)); refine blk_put (cs := #[.int .i64 140, .int .i64 x273001_1]) ?_ 1 _ rfl; (with_reducible repeat (first | refine blk_drewN ?_ _ | refine blk_drew ?_ | refine blk_alloc ?_ _)); refine blk_put (cs := #[.int .i64 x273000_1, .int .i64 x273001_1]) ?_ 0 _ rfl; (with_reducible repeat (first | refine blk_drewN ?_ _ | refine blk_drew ?_ | refine blk_alloc ?_ _)); exact BK272.out) Tryz.underlying31 rfl (by kernel_rfl)) rfl ?_
         exact ⟨_, by first | rfl | (simp [errW_none, errW_some] <;> rfl) | (simp [*, errW_none, errW_some] <;> rfl), by first | exact Kd.R_nil _ _ _ _ _ | exact Kd.N_nil _ _ _ _ _ | exact Kd.V_nil _ _ _ _ _ | exact Kd.Q_nil _ _ _ _ _ | exact Kd.S_nil _ _ _ _ _, by repeat (first | (with_reducible first | exact HB.out | apply below_alloc | apply pw_below_drewN | apply below_drew1 | refine below_set ?_ GE272.out) | exact HB.out)⟩
        ·rw [if_neg c13] at H
         have c13b0 : (t273.toList == ([] : List UInt8)) = false := beq_eq_false_iff_ne.mpr c13
         have c13b1 : (t273.toList != ([] : List UInt8)) = true := bne_iff_ne.mpr c13
         replace H := Option.bind_eq_some_iff.mp H
         obtain ⟨⟨t274, t275⟩, A160, H⟩ := H
         replace H : (if x4_1.length < 4398046511104 then (lexis_Words.l0 k1 a0 (x4_1 ++ [(⟨t274, t273, x5_1⟩ : S114)]) (wrap64 (x5_1 + (t273.size : Int)))) else (none)) = some (r1, r2, r3) := H
         have A16 := Aside0.mk A160
         clear A160
         by_cases c17 : x4_1.length < 4398046511104
         ·rw [if_pos c17] at H
          have LMc17 := Aside0.mk c17
          clear c17
          obtain ⟨y276, hy276⟩ : ∃ y_ : List (S114), y_ = (x4_1 ++ [(⟨t274, t273, x5_1⟩ : S114)]) := ⟨_, rfl⟩
          replace H : (lexis_Words.l0 k1 a0 y276 (wrap64 (x5_1 + (t273.size : Int)))) = some (r1, r2, r3) := by first | (rw [hy276]; with_reducible exact H) | (have H2_ := (Option.bind_some _ _).symm.trans H; rw [hy276]; with_reducible exact H2_) | (have H2_ := (Option.bind_some _ _).symm.trans H; with_reducible exact H2_) | with_reducible exact H | (rw [hy276]; exact H) | exact H
          have Ny276 := Aside0.mk hy276
          clear hy276
          have H' := Aside0.mk H
          clear H
          have p8 : 0 ≤ (x5_1 : Int) := of_decide_eq_true (by first | (with_reducible assumption) | assumption)
          have q8 : x5_1 < (a0.size : Int) := of_decide_eq_true (by first | (with_reducible assumption) | assumption)
          have hx8 := bt_at a0 x5_1
          replace p8 := eq_true p8
          replace q8 := eq_true q8
          go_wp2_with (first | ((with_reducible refine gate_callee (f := 59) rfl ?_); refine goesL_ (some 26) rfl rfl Tryz.func59 (by kernel_rfl) rfl #[.string (a0.extract (x5_1 : Int).toNat a0.size)] rfl (by (try simp only [List.map_toArray, List.map_cons, List.map_nil]); first | done | rfl | (simp only [List.length_drop, List.length_take]; rfl)) ?_; (with_reducible refine (lexis_first.calls (a0.extract (x5_1 : Int).toNat a0.size) t273 _ A12.out).mono ?_); rintro e w18 ⟨rfl, hb⟩; refine ⟨_, rfl, ?_⟩; have n0_ := Aside0.mk (Kd.R_below (by (with_reducible repeat (first | apply Kd.R_alloc | apply Kd.R_drewN | apply Kd.R_drew)); exact HO_4.out) hb); have n1_ := Aside0.mk (blk_below (g := gb272) (o := .cells #[.int .i64 x273000_1, .int .i64 x273001_1] 31 (0, 0)) (by (with_reducible repeat (first | refine blk_drewN ?_ _ | refine blk_drew ?_ | refine blk_alloc ?_ _)); exact BK272.out) hb); have n2_ := Aside0.mk (below_step (by repeat (first | (with_reducible first | exact HB.out | apply below_alloc | apply pw_below_drewN | apply below_drew1 | refine below_set ?_ GE272.out) | exact HB.out)) hb); clear HO_4; clear BK272; clear HB; have HO_4 := n0_; have BK272 := n1_; have HB := n2_; clear n0_ n1_ n2_; (try clear hb); (try clear hb2); (try clear hk); (try clear hi)) | ((with_reducible refine gate_callee (f := 60) rfl ?_); refine goesL_ (some 33) rfl rfl Tryz.func60 (by kernel_rfl) rfl #[.string t273] rfl (by (try simp only [List.map_toArray, List.map_cons, List.map_nil]); first | done | rfl | (simp only [List.length_drop, List.length_take]; rfl)) ?_; (with_reducible refine (lexis_Sort.calls k1 t273 t274 t275 _ A16.out).mono ?_); rintro e w19 ⟨rfl, hb⟩; refine ⟨_, rfl, ?_⟩; have n0_ := Aside0.mk (Kd.R_below (by (with_reducible repeat (first | apply Kd.R_alloc | apply Kd.R_drewN | apply Kd.R_drew)); exact HO_4.out) hb); have n1_ := Aside0.mk (blk_below (g := gb272) (o := .cells #[.int .i64 x273000_1, .int .i64 x273001_1] 31 (0, 0)) (by (with_reducible repeat (first | refine blk_drewN ?_ _ | refine blk_drew ?_ | refine blk_alloc ?_ _)); exact BK272.out) hb); have n2_ := Aside0.mk (below_step (by repeat (first | (with_reducible first | exact HB.out | apply below_alloc | apply pw_below_drewN | apply below_drew1 | refine below_set ?_ GE272.out) | exact HB.out)) hb); clear HO_4; clear BK272; clear HB; have HO_4 := n0_; have BK272 := n1_; have HB := n2_; clear n0_ n1_ n2_; (try clear hb); (try clear hb2); (try clear hk); (try clear hi)) | ((with_reducible refine gate_builtin (b := .append) (xs := #[.tmp 36, .tmp 41]) rfl ?_); at_builtin; refine Kd.R_append k114 (w0 := w) w.heap.size rfl (.tmp 36) (.tmp 41) 89 114 (.agg #[(.int .u8 0), (.string ⟨#[]⟩), (.int .i64 0)]) 32 rfl Tryz.underlying89 info114 rfl (by decide) (by omega) u4 x4_1 (⟨t274, t273, x5_1⟩ : S114) [.int .u8 t274, .string t273, .int .i64 x5_1] (fun _ => True) (fun _ => False) rfl rfl ?aP (fun _ hk => hk.elim) ?aF ?aO ?aB ?aS ?aL ?_; (case aP => exact k114_mkM _ _ _ (⟨t274, t273, x5_1⟩ : S114)); (case aB => exact (by repeat (first | (with_reducible first | exact HB.out | apply below_alloc | apply pw_below_drewN | apply below_drew1 | refine below_set ?_ GE272.out) | exact HB.out))); (case aF => exact (fun _ _ => trivial)); (case aO => exact (by (with_reducible repeat (first | apply Kd.R_alloc | apply Kd.R_drewN | apply Kd.R_drew)); exact HO_4.out)); (case aS => exact (below_size (by repeat (first | (with_reducible first | exact HB.out | apply below_alloc | apply pw_below_drewN | apply below_drew1 | refine below_set ?_ GE272.out) | exact HB.out)))); (case aL => have := LMc17.out; omega); intro v277 w20 ho hb hg hat; rw [← Ny276.out] at ho; have n0_ := Aside0.mk (blk_grown (g := gb272) (o := .cells #[.int .i64 x273000_1, .int .i64 x273001_1] 31 (0, 0)) (by (with_reducible repeat (first | refine blk_drewN ?_ _ | refine blk_drew ?_ | refine blk_alloc ?_ _)); exact BK272.out) hg (Kd.R_ne HO_4.out BK272.out (by decide))); have n1_ := Aside0.mk (hb); have n2_ := Aside0.mk (ho); clear BK272; clear HB; clear HO_4; have BK272 := n0_; have HB := n1_; have HO278 := n2_; clear n0_ n1_ n2_; clear ho hb hg hat))
          go_roundg k1
          case measure => have := HK1.out; omega
          case rel => exact ⟨(y276), (wrap64 (x5_1 + (t273.size : Int))), (x273000_1), (x273001_1), (by first | rfl | (simp; done) | (simp [*]; done)), H', ⟨by have := HK1.out; omega⟩, ⟨by (with_reducible repeat (first | apply Kd.R_alloc | apply Kd.R_drewN | apply Kd.R_drew)); exact HO278.out⟩, ⟨by (with_reducible repeat (first | refine blk_drewN ?_ _ | refine blk_drew ?_ | refine blk_alloc ?_ _)); exact BK272.out⟩, ⟨by repeat (first | (with_reducible first | exact HB.out | apply below_alloc | apply pw_below_drewN | apply below_drew1 | refine below_set ?_ GE272.out) | exact HB.out)⟩⟩
         ·rw [if_neg c17] at H
          exact absurd H (by simp)
       ·rw [if_neg c11] at H
        exact absurd H (by simp)
     ·rw [if_neg c7] at H
      exact absurd H (by simp)
    ·rw [if_neg c6] at H
     have c6b0 : decide (x5_1 < (a0.size : Int)) = false := decide_eq_false c6
     clear c6
     simp only [Option.some.injEq, Prod.mk.injEq] at H
     obtain ⟨rfl, rfl, rfl⟩ := H
     have hcz21_0 : wr.cell? ⟨gb272, 0, none⟩ = some (.int .i64 x273000_1) := (blk_cell BK272.out 0).trans rfl
     have hcz21_1 : wr.cell? ⟨gb272, 1, none⟩ = some (.int .i64 x273001_1) := (blk_cell BK272.out 1).trans rfl
     have hfz21_0 := blk_frozen BK272.out 0
     have hfz21_1 := blk_frozen BK272.out 1
     go_wp2
     refine bodyPost_ret (results_tc rfl _ _ gb272 31 #[.int .i64 0, .int .i64 0] (0, 0) _ rfl (by (with_reducible repeat (first | refine blk_drewN ?_ _ | refine blk_drew ?_ | refine blk_alloc ?_ _)); refine blk_put (cs := #[.int .i64 0, .int .i64 x273001_1]) ?_ 1 _ rfl; (with_reducible repeat (first | refine blk_drewN ?_ _ | refine blk_drew ?_ | refine blk_alloc ?_ _)); refine blk_put (cs := #[.int .i64 x273000_1, .int .i64 x273001_1]) ?_ 0 _ rfl; (with_reducible repeat (first | refine blk_drewN ?_ _ | refine blk_drew ?_ | refine blk_alloc ?_ _)); exact BK272.out) Tryz.underlying31 rfl (by kernel_rfl)) rfl ?_
     exact ⟨_, by first | rfl | (simp [errW_none, errW_some] <;> rfl) | (simp [*, errW_none, errW_some] <;> rfl), by (with_reducible repeat (first | apply Kd.R_alloc | apply Kd.R_drewN | apply Kd.R_drew)); exact Kd.R_mono (Kd.R_far (p := ⟨gb272, 1, none⟩) (Kd.R_far (p := ⟨gb272, 0, none⟩) (Kd.R_types HO_4.out BK272.out (by decide)) (fun _ hk => hk.2) (.int .i64 0)) (fun _ hk => hk.2) (.int .i64 0)) (fun _ hk => trivial), by repeat (first | (with_reducible first | exact HB.out | apply below_alloc | apply pw_below_drewN | apply below_drew1 | refine below_set ?_ GE272.out) | exact HB.out)⟩
/-- A state of type 96 at block g of W; what its slices lead to came in by w0. -/
def IsS96 (w0 W : World) (g : Nat) (f0 : List ByteArray) (f1 : List (S114)) (f2 : Int) (f3 : List (S41)) : Prop := ∃ A0 c0, ∃ A1 c1, ∃ A3 c3, W.heap[g]? = some (.cells #[.slice A0 f0.length c0, .slice A1 f1.length c1, .int .i64 f2, .slice A3 f3.length c3] 96 (0, 0)) ∧ w0.heap.size ≤ g ∧ Kd.C Kd.string w0 A0 f0.length f0 ∧ Kd.C k114 w0 A1 f1.length f1 ∧ Kd.C k41 w0 A3 f3.length f3
theorem IsS96.grown {w0 W : World} {g : Nat} {f0 : List ByteArray} {f1 : List (S114)} {f2 : Int} {f3 : List (S41)} {W1 : World} {row : Option Nat} (h : IsS96 w0 W g f0 f1 f2 f3) (hw : W.grownBy W1 row) (hne : some g ≠ row) : IsS96 w0 W1 g f0 f1 f2 f3 := by
 obtain ⟨A0, c0, A1, c1, A3, c3, hb, hg, hr0, hr1, hr3⟩ := h
 exact ⟨A0, c0, A1, c1, A3, c3, blk_grown hb hw hne, hg, hr0, hr1, hr3⟩
theorem IsS96.kept {w0 W : World} {g : Nat} {f0 : List ByteArray} {f1 : List (S114)} {f2 : Int} {f3 : List (S41)} {W1 : World} {S : Nat → Prop} (h : IsS96 w0 W g f0 f1 f2 f3) (hk : Kept W W1 S) (hne : ¬ S g) : IsS96 w0 W1 g f0 f1 f2 f3 := by
 obtain ⟨A0, c0, A1, c1, A3, c3, hb, hg, hr0, hr1, hr3⟩ := h
 exact ⟨A0, c0, A1, c1, A3, c3, blk_kept hb hk hne, hg, hr0, hr1, hr3⟩
theorem IsS96.below {w0 W : World} {g : Nat} {f0 : List ByteArray} {f1 : List (S114)} {f2 : Int} {f3 : List (S41)} {W1 : World} (h : IsS96 w0 W g f0 f1 f2 f3) (hw : Below W.heap.size W W1) : IsS96 w0 W1 g f0 f1 f2 f3 := h.grown (grown_of_below hw none) (by simp)
theorem IsS96.alloc {w0 W : World} {g : Nat} {f0 : List ByteArray} {f1 : List (S114)} {f2 : Int} {f3 : List (S41)} (h : IsS96 w0 W g f0 f1 f2 f3) (o : Obj) : IsS96 w0 (W.alloc o) g f0 f1 f2 f3 := h.below (below_alloc (Below.refl _ _) o)
theorem IsS96.drewN {w0 W : World} {g : Nat} {f0 : List ByteArray} {f1 : List (S114)} {f2 : Int} {f3 : List (S41)} (h : IsS96 w0 W g f0 f1 f2 f3) (m : Nat) : IsS96 w0 (W.drewN m) g f0 f1 f2 f3 := h
theorem IsS96.drew {w0 W : World} {g : Nat} {f0 : List ByteArray} {f1 : List (S114)} {f2 : Int} {f3 : List (S41)} (h : IsS96 w0 W g f0 f1 f2 f3) : IsS96 w0 W.drew g f0 f1 f2 f3 := h
theorem IsS96.at_ {w0 W : World} {g : Nat} {f0 : List ByteArray} {f1 : List (S114)} {f2 : Int} {f3 : List (S41)} {w' : World} {m : Nat} (hq : W.drewN m = w') (h : IsS96 w0 W g f0 f1 f2 f3) : IsS96 w0 w' g f0 f1 f2 f3 := by subst hq; exact IsS96.drewN h m
theorem IsS96.own_ne {w0 W : World} {g : Nat} {f0 : List ByteArray} {f1 : List (S114)} {f2 : Int} {f3 : List (S41)} {α : Type} {d : Kd α} {e : Nat} {base : Nat} {ok : Nat → Prop} {v : Value} {xs : List α} (h : IsS96 w0 W g f0 f1 f2 f3) (ho : d.R e W base ok v xs) (ht : e ≠ 96) : some g ≠ v.ownBlock := by
 obtain ⟨A0, c0, A1, c1, A3, c3, hb, hg, hr0, hr1, hr3⟩ := h
 exact Kd.R_ne ho hb ht
theorem IsS96.lt {w0 W : World} {g : Nat} {f0 : List ByteArray} {f1 : List (S114)} {f2 : Int} {f3 : List (S41)} (h : IsS96 w0 W g f0 f1 f2 f3) : g < W.heap.size := by
 obtain ⟨A0, c0, A1, c1, A3, c3, hb, hg, hr0, hr1, hr3⟩ := h
 exact blk_lt hb
end Go.Proofs.YtaogoabnidbbpaaGreatDoor.PText
namespace Go.Proofs.YtaogoabnidbbpaaGreatDoor.PText
open Go.RowKit Go.Proofs.YtaogoabnidbbpaaGreatDoorW.PrintWords Go.Proofs.YtaogoabnidbbpaaGreatDoorW.PrintLast Go.Proofs.YtaogoabnidbbpaaGreatDoorW.PrintMore
set_option linter.unusedVariables false
set_option linter.unusedSimpArgs false
abbrev Wd := S114
def lexF : Nat → Bs → Nat → Except Nat (List Wd)
 | 0, _, _ => .ok []
 | _ + 1, [], _ => .ok []
 | n + 1, c :: t, i => if c = 32 then lexF n t (i + 1) else if firstL (c :: t) = [] then .error i else
   match lexF n ((c :: t).drop (firstL (c :: t)).length) (i + (firstL (c :: t)).length) with
   | .ok ws => .ok (⟨(sortL (firstL (c :: t))).1, bytesB (firstL (c :: t)), (i : Int)⟩ :: ws)
   | .error e => .error e
def resF (acc : List Wd) : Except Nat (List Wd) → List Wd × Int × Int
 | .ok ws => (acc ++ ws, 0, 0)
 | .error e => ([], 140, (e : Int))
theorem lexF_cons (n : Nat) (c : UInt8) (t : Bs) (i : Nat) : lexF (n + 1) (c :: t) i = if c = 32 then lexF n t (i + 1) else if firstL (c :: t) = [] then .error i else
   match lexF n ((c :: t).drop (firstL (c :: t)).length) (i + (firstL (c :: t)).length) with
   | .ok ws => .ok (⟨(sortL (firstL (c :: t))).1, bytesB (firstL (c :: t)), (i : Int)⟩ :: ws)
   | .error e => .error e := by rw [lexF]
theorem lexF_nil (n : Nat) (i : Nat) : lexF n [] i = .ok [] := by cases n <;> rw [lexF]
theorem head_pre (l : Bs) : headL l <+: l := List.takeWhile_prefix _
theorem sign_fold (l : Bs) : ∀ (xs : List Bs) (b : Bs), (b = [] ∨ b ∈ signs ∧ b <+: l) → (∀ x ∈ xs, x ∈ signs) → (xs.foldl (longer l) b = [] ∨ xs.foldl (longer l) b ∈ signs ∧ xs.foldl (longer l) b <+: l) := by
 intro xs
 induction xs with
 | nil => intro b hb _; exact hb
 | cons x xs ih =>
  intro b hb hx
  rw [List.foldl_cons]
  refine ih _ ?_ (fun y hy => hx y (List.mem_cons_of_mem _ hy))
  unfold longer
  split
  ·exact hb
  ·split
   ·rename_i h; exact .inr ⟨hx x List.mem_cons_self, List.isPrefixOf_iff_prefix.1 h⟩
   ·exact hb
theorem sign_ok (l : Bs) : signL l = [] ∨ signL l ∈ signs ∧ signL l <+: l := sign_fold l signs [] (.inl rfl) (fun _ h => h)
theorem first_pre (l : Bs) : firstL l <+: l := by
 unfold firstL
 split
 ·rcases sign_ok l with h | h
  ·rw [h]; exact List.nil_prefix
  ·exact h.2
 ·split
  ·exact head_pre l
  ·exact List.nil_prefix
theorem drop_extract (s : ByteArray) (i : Nat) (h : i ≤ s.size) : (s.extract i s.size).data.toList = s.data.toList.drop i := by
 have h1 := size_eq s
 rw [ByteArray.data_extract, Array.toList_extract]
 simp [List.extract]
 rw [List.take_of_length_le (by rw [List.length_drop]; omega)]
attribute [local irreducible] firstL sortL
theorem words_loop (s : ByteArray) (hs : s.size ≤ 4096) (n : Nat) : ∀ (i : Nat) (acc : List Wd), i ≤ s.size → s.size - i ≤ n → acc.length ≤ i → Ev (fun k => lexis_Words.l0 k s acc i) (resF acc (lexF n (s.data.toList.drop i) i)) := by
 have hsz := size_eq s
 induction n with
 | zero =>
  intro i acc hi hn ha
  refine Ev.step (f := fun _ => some (acc, 0, 0)) (fun k => ?_) (by rw [show lexF 0 (s.data.toList.drop i) i = .ok [] by rw [lexF]]; rw [show resF acc (.ok []) = (acc ++ [], 0, 0) from rfl, List.append_nil]; exact Ev.now _)
  simp only [lexis_Words.l0]
  rw [if_neg (by omega)]
 | succ n ih =>
  intro i acc hi hn ha
  by_cases hil : i < s.size
  ·have hl : i < s.data.toList.length := by omega
   have hd := List.drop_eq_getElem_cons hl
   obtain ⟨c, hc⟩ : ∃ c, c = s.data.toList[i] := ⟨_, rfl⟩
   have hb := bt_of s i hil
   rw [← hc] at hb hd
   by_cases h32 : c = 32
   ·have hw : wrap64 ((i : Int) + 1) = ((i + 1 : Nat) : Int) := by unfold wrap64; omega
    have hv : lexF (n + 1) (s.data.toList.drop i) i = lexF n (s.data.toList.drop (i + 1)) (i + 1) := by rw [hd, lexF_cons, if_pos h32]
    rw [hv]
    refine Ev.step (fun k => ?_) (ih (i + 1) acc (by omega) (by omega) (by omega))
    simp only [lexis_Words.l0]
    rw [if_pos (by omega), if_pos (by omega), if_pos (by rw [hb, h32]; rfl), hw]
   ·have hb32 : ¬ bt s i = 32 := by
     rw [hb]
     intro e
     apply h32
     apply UInt8.toNat_inj.1
     have : (32 : UInt8).toNat = 32 := rfl
     omega
    obtain ⟨w, hw⟩ : ∃ w, w = firstL (s.data.toList.drop i) := ⟨_, rfl⟩
    have hf : lexis_first.f (s.extract ((i : Int)).toNat s.size) = some (bytesB w) := by
     unfold lexis_first.f
     rw [Int.toNat_natCast, drop_extract s i hi, hw]
    have htl : (bytesB w).toList = w := bytes_eq w
    by_cases hw0 : w = []
    ·have hv : lexF (n + 1) (s.data.toList.drop i) i = .error i := by
      rw [hd] at hw ⊢
      rw [lexF_cons, if_neg h32, if_pos (by rw [← hw]; exact hw0)]
     rw [hv]
     refine Ev.step (f := fun _ => some (([] : List Wd), 140, (i : Int))) (fun k => ?_) (Ev.now _)
     simp only [lexis_Words.l0]
     rw [if_pos (by omega), if_pos (by omega), if_neg hb32, if_pos (by omega), hf]
     simp only [Option.bind_some]
     rw [if_pos (by rw [htl]; exact hw0)]
    ·have hp := first_pre (s.data.toList.drop i)
     rw [← hw] at hp
     have hpl := hp.length_le
     rw [List.length_drop] at hpl
     have hw1 : 1 ≤ w.length := by
      rcases w with _ | ⟨x, t⟩
      ·exact absurd rfl hw0
      ·simp
     have hwr : Aside0 (wrap64 ((i : Int) + ((bytesB w).size : Int)) = ((i + w.length : Nat) : Int)) := ⟨by rw [size_bytesB]; unfold wrap64; omega⟩
     have hv : resF acc (lexF (n + 1) (s.data.toList.drop i) i) = resF (acc ++ [⟨(sortL w).1, bytesB w, (i : Int)⟩]) (lexF n (s.data.toList.drop (i + w.length)) (i + w.length)) := by
      have h5 : s.data.toList.drop (i + w.length) = (s.data.toList.drop i).drop w.length := by rw [List.drop_drop]
      rw [h5]
      rw [hd] at hw ⊢
      rw [lexF_cons, if_neg h32, if_neg (by rw [← hw]; exact hw0), ← hw]
      cases lexF n (List.drop w.length (c :: s.data.toList.drop (i + 1))) (i + w.length) with
      | ok ws => simp [resF]
      | error e => rfl
     rw [hv]
     have hsE := sort_ev (bytesB w)
     rw [show (bytesB w).data.toList = w from rfl] at hsE
     obtain ⟨nxt, hnxt⟩ : ∃ nxt : Wd → List Wd, nxt = fun x => acc ++ [x] := ⟨_, rfl⟩
     have hstep : ∀ k, lexis_Words.l0 (k + 1) s acc i = (lexis_Sort.f k (bytesB w)).bind fun p => lexis_Words.l0 k s (nxt ⟨p.1, bytesB w, (i : Int)⟩) ((i + w.length : Nat) : Int) := by
      intro k
      have hac : acc.length < 4398046511104 := by omega
      have c1 : (i : Int) < (s.size : Int) := by omega
      have c2 : (0 : Int) ≤ (i : Int) := by omega
      have c3 : (i : Int) ≤ (s.size : Int) := by omega
      have c4 : ¬ (bytesB w).toList = [] := by rw [htl]; exact hw0
      simp only [lexis_Words.l0, if_pos c1, if_pos c2, if_neg hb32, if_pos c3, if_pos hac, hf, Option.bind_some, if_neg c4, hwr.out, hnxt]
     have hgo := ih (i + w.length) (nxt ⟨(sortL w).1, bytesB w, (i : Int)⟩) (by omega) (by omega) (by rw [hnxt]; show (acc ++ [_]).length ≤ _; rw [List.length_append, List.length_cons, List.length_nil]; omega)
     have hfin : Ev (fun k => (lexis_Sort.f k (bytesB w)).bind fun p => lexis_Words.l0 k s (nxt ⟨p.1, bytesB w, (i : Int)⟩) ((i + w.length : Nat) : Int)) (resF (nxt ⟨(sortL w).1, bytesB w, (i : Int)⟩) (lexF n (s.data.toList.drop (i + w.length)) (i + w.length))) :=
      Ev.bind (f := fun k p => lexis_Words.l0 k s (nxt ⟨p.1, bytesB w, (i : Int)⟩) ((i + w.length : Nat) : Int)) hsE hgo
     rw [hnxt] at hfin hstep
     exact Ev.step hstep hfin
  ·have hv : lexF (n + 1) (s.data.toList.drop i) i = .ok [] := by rw [List.drop_of_length_le (by omega), lexF_nil]
   rw [hv]
   refine Ev.step (f := fun _ => some (acc, 0, 0)) (fun k => ?_) (by rw [show resF acc (.ok []) = (acc ++ [], 0, 0) from rfl, List.append_nil]; exact Ev.now _)
   simp only [lexis_Words.l0]
   rw [if_neg (by omega)]
/-- The words of a text. -/
def wordsL (l : Bs) : List Wd × Int × Int := if l.length ≤ 4096 then resF [] (lexF l.length l 0) else ([], 3, -1)
theorem words_ev (s : ByteArray) : Ev (fun k => lexis_Words.f k s) (wordsL s.data.toList) := by
 have hsz := size_eq s
 unfold wordsL
 by_cases h : s.data.toList.length ≤ 4096
 ·rw [if_pos h]
  refine Ev.congr (f := fun k => lexis_Words.l0 k s [] ((0 : Nat) : Int)) (fun k => ?_) (by rw [hsz]; exact words_loop s (by omega) s.size 0 [] (Nat.zero_le _) (by omega) (Nat.zero_le _))
  unfold lexis_Words.f
  rw [if_neg (by omega)]
  rfl
 ·rw [if_neg h]
  refine Ev.congr (f := fun _ => some (([] : List Wd), 3, -1)) (fun k => ?_) (Ev.now _)
  unfold lexis_Words.f
  rw [if_pos (by omega)]
abbrev Tk := S41
/-- The reader's methods, and the loops inside them. -/
inductive Nt where
 | iff | imp | or | and | til | unary | atom | plus | seq | star | bare
 | moreIff | moreOr | moreAnd | morePlus | moreSeq | stars
/-- The words that are left, the tokens that are out. -/
structure Rd where
 ws : List Wd
 out : List Tk
/-- How a method ends: it goes on, or it stops with an error and a place. -/
inductive End where
 | go (r : Rd)
 | stop (e at_ : Int)
def Rd.next (r : Rd) : Bs := match r.ws with | [] => [] | w :: _ => w.f1.data.toList
def Rd.pop (r : Rd) : Rd := ⟨r.ws.drop 1, r.out⟩
def Rd.put (r : Rd) (op : Int) : Rd := ⟨r.ws, r.out ++ [⟨op, 0⟩]⟩
def Rd.place (r : Rd) (last : Int) : Int := match r.ws with | [] => last | w :: _ => w.f2
def Rd.fail (r : Rd) (last e : Int) : End := .stop e (r.place last)
/-- What goes on behind a method. -/
def thenDo (x : Option End) (f : Rd → Option End) : Option End := match x with
 | none => none
 | some (.stop e a) => some (.stop e a)
 | some (.go r) => f r
/-- The next word, which must be this one. -/
def Rd.want (r : Rd) (last : Int) (s : Bs) (f : Rd → Option End) : Option End := if r.next = s then f r.pop else some (r.fail last 150)
/-- Where a name stands among the names. -/
def placeOf (names : List ByteArray) (s : Bs) : Option Nat := names.findIdx? (fun x => x.data.toList == s)
/-- A proposition. -/
def Rd.name (r : Rd) (names : List ByteArray) (last : Int) : Option End := match r.ws with
 | [] => some (r.fail last 150)
 | w :: _ => if w.f1.data.toList = [] ∨ w.f0 ≠ 2 then some (r.fail last 150) else match placeOf names w.f1.data.toList with
  | none => some (r.fail last 6)
  | some i => some (.go (⟨r.ws, r.out ++ [⟨2, (i : Int)⟩]⟩ : Rd).pop)
def run (names : List ByteArray) (last : Int) : Nat → Nt → Rd → Option End
 | 0, _, _ => none
 | n + 1, .iff, r => thenDo (run names last n .imp r) (run names last n .moreIff)
 | n + 1, .moreIff, r => if r.next = [60, 45, 62] then thenDo (run names last n .imp r.pop) (fun r => run names last n .moreIff (r.put 14)) else some (.go r)
 | n + 1, .imp, r => thenDo (run names last n .or r) (fun r => if r.next = [45, 62] then thenDo (run names last n .imp r.pop) (fun r => some (.go (r.put 13))) else some (.go r))
 | n + 1, .or, r => thenDo (run names last n .and r) (run names last n .moreOr)
 | n + 1, .moreOr, r => if r.next = [124] then thenDo (run names last n .and r.pop) (fun r => run names last n .moreOr (r.put 12)) else some (.go r)
 | n + 1, .and, r => thenDo (run names last n .til r) (run names last n .moreAnd)
 | n + 1, .moreAnd, r => if r.next = [38] then thenDo (run names last n .til r.pop) (fun r => run names last n .moreAnd (r.put 11)) else some (.go r)
 | n + 1, .til, r => thenDo (run names last n .unary r) (fun r => if r.next = [85] then thenDo (run names last n .til r.pop) (fun r => some (.go (r.put 15))) else if r.next = [82] then thenDo (run names last n .til r.pop) (fun r => some (.go (r.put 16))) else some (.go r))
 | n + 1, .unary, r =>
  if r.next = [33] then thenDo (run names last n .unary r.pop) (fun r => some (.go (r.put 6)))
  else if r.next = [88] then thenDo (run names last n .unary r.pop) (fun r => some (.go (r.put 7)))
  else if r.next = [78] then thenDo (run names last n .unary r.pop) (fun r => some (.go (r.put 8)))
  else if r.next = [70] then thenDo (run names last n .unary r.pop) (fun r => some (.go (r.put 9)))
  else if r.next = [71] then thenDo (run names last n .unary r.pop) (fun r => some (.go (r.put 10)))
  else if r.next = [60] then thenDo (run names last n .plus r.pop) (fun r => r.want last [62] (fun r => thenDo (run names last n .unary r) (fun r => some (.go (r.put 17)))))
  else if r.next = [91] then thenDo (run names last n .plus r.pop) (fun r => r.want last [93] (fun r => thenDo (run names last n .unary r) (fun r => some (.go (r.put 18)))))
  else run names last n .atom r
 | n + 1, .atom, r =>
  if r.next = [116, 114, 117, 101] then some (.go (r.put 0).pop)
  else if r.next = [102, 97, 108, 115, 101] then some (.go (r.put 1).pop)
  else if r.next = [108, 97, 115, 116] then some (.go (r.put 3).pop)
  else if r.next = [40] then thenDo (run names last n .iff r.pop) (fun r => r.want last [41] (fun r => some (.go r)))
  else r.name names last
 | n + 1, .plus, r => thenDo (run names last n .seq r) (run names last n .morePlus)
 | n + 1, .morePlus, r => if r.next = [43] then thenDo (run names last n .seq r.pop) (fun r => run names last n .morePlus (r.put 21)) else some (.go r)
 | n + 1, .seq, r => thenDo (run names last n .star r) (run names last n .moreSeq)
 | n + 1, .moreSeq, r => if r.next = [59] then thenDo (run names last n .star r.pop) (fun r => run names last n .moreSeq (r.put 22)) else some (.go r)
 | n + 1, .star, r => thenDo (run names last n .bare r) (run names last n .stars)
 | n + 1, .stars, r => if r.next = [42] then run names last n .stars (r.pop.put 23) else some (.go r)
 | n + 1, .bare, r =>
  if r.next = [123] then thenDo (run names last n .iff r.pop) (fun r => r.want last [125] (fun r => some (.go (r.put 19))))
  else if r.next = [63] then thenDo (run names last n .unary r.pop) (fun r => some (.go (r.put 20)))
  else if r.next = [40] then thenDo (run names last n .plus r.pop) (fun r => r.want last [41] (fun r => some (.go r)))
  else some (r.fail last 150)
/-- The words of a text, read from the given method on to their end. -/
def readW (names : List ByteArray) (last : Int) (n : Nat) (nt : Nt) (ws : List Wd) : Option End :=
 thenDo (run names last n nt ⟨ws, []⟩) (fun r => match r.ws with | [] => some (.go r) | _ :: _ => some (r.fail last 150))
end Go.Proofs.YtaogoabnidbbpaaGreatDoor.PText
