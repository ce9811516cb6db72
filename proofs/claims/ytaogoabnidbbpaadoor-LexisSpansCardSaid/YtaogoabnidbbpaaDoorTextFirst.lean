/- lexis.first, walked by hand. Conditions stand in each law. -/
import Derived.Test.YtaogoabnidbbpaaDoorTextLex
import Derived.BigCall
import Derived.WalkMore
import Derived.Lib.OthersKept
namespace Go.Proofs.YtaogoabnidbbpaaDoor.PText
open Go.RowKit Go.Proofs.YtaogoabnidbbpaaDoorW.PrintWords Go.Proofs.YtaogoabnidbbpaaDoorW.PrintLast Go.Proofs.YtaogoabnidbbpaaDoorW.PrintMore
set_option linter.unusedVariables false
def longer (l b x : Bs) : Bs := if x.length ≤ b.length then b else if x.isPrefixOf l then x else b
def signL (l : Bs) : Bs := signs.foldl (longer l) []
def headL (l : Bs) : Bs := l.takeWhile wordB
def firstL (l : Bs) : Bs := if headL l = [] then signL l else if (sortL (headL l)).2 = true then headL l else []
def lexis_first.f (s : ByteArray) : Option ByteArray := some (bytesB (firstL s.data.toList))
theorem wordly_all : ∀ a : Fin 256, lexis_wordly.f (a.val : Int) = some (wordB (UInt8.ofNat a.val)) := by decide +kernel
theorem wordly_word (c : UInt8) : lexis_wordly.f (c.toNat : Int) = some (wordB c) := by
  have := wordly_all ⟨c.toNat, c.toNat_lt⟩
  rw [show UInt8.ofNat c.toNat = c from UInt8.ofNat_toNat] at this
  exact this
theorem wordly_high (n : Nat) (h : 128 ≤ n) : lexis_wordly.f (n : Int) = some false := by
  unfold lexis_wordly.f
  rw [if_pos (by omega), if_neg (by omega), if_pos (by omega), if_neg (by omega), if_pos (by omega)]
  rw [decide_eq_false (by omega)]
theorem take_all (l : Bs) (n : Nat) (h : (l.take n).all wordB = true) (he : ∀ c, l[n]? = some c → wordB c = false) : headL l = l.take n := by
  induction n generalizing l with
  | zero =>
    cases l with
    | nil => rfl
    | cons c t => simp only [headL, List.takeWhile_cons, he c rfl]; rfl
  | succ n ih =>
    cases l with
    | nil => rfl
    | cons c t =>
      rw [List.take_succ_cons, List.all_cons, Bool.and_eq_true] at h
      have := ih t h.2 (fun d hd => he d (by simpa using hd))
      unfold headL at this ⊢
      rw [List.takeWhile_cons, h.1]
      simp [this]
theorem extract_take (s : ByteArray) (n : Nat) (h : n ≤ s.size) : s.extract 0 n = bytesB (s.data.toList.take n) := by
  apply ByteArray.ext
  rw [ByteArray.data_extract]
  apply Array.ext'
  simp
  rfl
theorem word_all : ∀ a : Fin 256, wordB (UInt8.ofNat a.val) = true → a.val < 128 := by decide +kernel
theorem word_low (c : UInt8) (h : wordB c = true) : c.toNat < 128 := by
  have := word_all ⟨c.toNat, c.toNat_lt⟩
  rw [show UInt8.ofNat c.toNat = c from UInt8.ofNat_toNat] at this
  exact this h
theorem size_bytesB (x : Bs) : (bytesB x).size = x.length := by simp [bytesB, ByteArray.size]
theorem rd_map (xs : List Bs) (i : Nat) (h : i < xs.length) : rdOf ByteArray.empty (xs.map bytesB) (i : Int) = bytesB xs[i] := by
  unfold rdOf
  rw [Int.toNat_natCast]
  simp [List.getD_eq_getElem?_getD, h]
theorem extract_all (s : ByteArray) : s.extract 0 s.size = s := by simp
theorem signs_len : signs.length = 17 := rfl
theorem prefix_f (s : ByteArray) (x : Bs) : strings_HasPrefix.f s (bytesB x) = some (x.isPrefixOf s.data.toList) := by
  have hs := size_eq s
  have hx := size_bytesB x
  have hc : stringslite_HasPrefix.f s (bytesB x) = some (x.isPrefixOf s.data.toList) := by
    unfold stringslite_HasPrefix.f
    by_cases h1 : x.length ≤ s.size
    · rw [if_pos (by omega), if_pos (by omega), if_pos (by omega), hx, Int.toNat_natCast, extract_take s x.length h1, bytes_eq, bytes_eq]
      congr 1
      by_cases h2 : x <+: s.data.toList
      · rw [List.isPrefixOf_iff_prefix.2 h2]
        rw [beq_iff_eq]
        exact (List.prefix_iff_eq_take.1 h2).symm
      · have h3 : x.isPrefixOf s.data.toList = false := by
          rw [Bool.eq_false_iff]
          exact fun e => h2 (List.isPrefixOf_iff_prefix.1 e)
        rw [h3, beq_eq_false_iff_ne]
        exact fun e => h2 (e ▸ List.take_prefix _ _)
    · rw [if_neg (by omega)]
      congr 1
      symm
      rw [Bool.eq_false_iff]
      intro e
      have := (List.isPrefixOf_iff_prefix.1 e).length_le
      omega
  unfold strings_HasPrefix.f
  rw [hc]
  rfl
set_option maxHeartbeats 8000000 in
set_option maxRecDepth 100000 in
theorem lexis_first.calls (a0 : ByteArray) (r : ByteArray) (w : World) (h : lexis_first.f a0 = some r) (HT : Aside0 (Laid w) := by exact ⟨Laid.later HT.out (by repeat (first | (with_reducible first | exact HB.out | apply below_alloc | apply pw_below_drewN | apply below_drew1) | exact HB.out))⟩) :
    Calls Tryd.prog 40 #[.string a0] w fun e w' => e = .returned (.string r) ∧ Below w.heap.size w w' := by
  have hr := Option.some.inj h
  clear h
  subst hr
  have hsz := size_eq a0
  obtain ⟨l, hl0⟩ : ∃ l, l = a0.data.toList := ⟨_, rfl⟩
  have hl := Aside0.mk hl0
  clear hl0
  have hlen : l.length = a0.size := by rw [hl.out]; exact hsz
  obtain ⟨ts, hfs, hts⟩ : ∃ ts, strings_Fields.f (⟨#[40, 32, 41, 32, 91, 32, 93, 32, 123, 32, 125, 32, 60, 32, 62, 32, 33, 32, 63, 32, 38, 32, 124, 32, 43, 32, 59, 32, 42, 32, 45, 62, 32, 60, 45, 62]⟩ : ByteArray) = some ts ∧ Aside0 (ts.length = 17 ∧ ∀ i (h : i < signs.length), rdOf ByteArray.empty ts (i : Int) = bytesB signs[i]) := ⟨signs.map bytesB, fields_signs, ⟨by rw [List.length_map]; exact signs_len, fun i h => rd_map signs i h⟩⟩
  go_enter Tryd.func40, Tryd.ntmps40
  go_wp2
  go_step3
  go_wp2
  go_loopw [3] (fun v3 wr => ∃ (pos : Nat), v3 = .int .i64 (a0.size : Int) ∧ pos ≤ a0.size ∧ (l.take pos).all wordB = true ∧ wr.heap[w.heap.size]? = some (.stringIter a0 pos) ∧ Below w.heap.size w wr) (fun v3 wr => a0.size - wr.iterPos w.heap.size)
  case atStart =>
    refine ⟨0, rfl, Nat.zero_le _, by simp, ?_, below_alloc (Below.refl _ w) _⟩
    have := World.iter_heap w a0 0
    simpa using this
  case round =>
    obtain ⟨pos, rfl, hpl, hall, hit, hb⟩ := hrel
    have hsz0 : w.heap.size < wr.heap.size := (Array.getElem?_eq_some_iff.1 hit).1
    by_cases hp : pos < a0.size
    · obtain ⟨rn, wd, hdec⟩ : ∃ rn wd, Utf8.decode a0 pos = (rn, wd) := ⟨_, _, rfl⟩
      have hnx : ∀ ty, (Instr.next (.pointer (some ⟨w.heap.size, 0, none⟩)) true ty).run Tryd.prog wr = .ok (.tuple #[.bool true, .int .i64 pos, .int .i32 rn]) (wr.iterAt w.heap.size a0 (pos + wd)) := by
        intro ty
        have := Lib.run_next_any_at (P := Tryd.prog) wr w.heap.size a0 pos ty hit hp
        rw [hdec] at this
        exact this
      have hit2 := Lib.iterAt_heap wr w.heap.size a0 pos (pos + wd) hit
      have hbw2 := Lib.below_iterAt hb (k := w.heap.size) (by omega) a0 (pos + wd)
      obtain ⟨c, hc⟩ : ∃ c, c = a0.data.toList[pos]'(by rw [hsz]; exact hp) := ⟨_, rfl⟩
      have hget : l[pos]? = some c := by rw [hl.out, hc]; exact List.getElem?_eq_getElem _
      have HB := Aside0.mk hbw2
      by_cases hw : wordB c = true
      · have hlt : c.toNat < 128 := word_low c hw
        have hdec1 : (rn, wd) = (c.toNat, 1) := by rw [← hdec, hc]; exact decode_ascii a0 pos hp (by rw [hc] at hlt; exact hlt)
        obtain ⟨hrn, rfl⟩ := Prod.mk.inj hdec1
        have hwd : lexis_wordly.f (rn : Int) = some true := by rw [hrn, ← hw]; exact wordly_word c
        clear hdec1 hdec hrn hc
        go_wp2_with (first | ((with_reducible refine gate_callee (f := 60) rfl ?_); refine goesL_ (some 20) rfl rfl Tryd.func60 (by kernel_rfl) rfl #[.int .i32 _] rfl (by (try simp only [List.map_toArray, List.map_cons, List.map_nil]); first | done | rfl | (simp only [List.length_drop, List.length_take]; rfl)) ?_; (with_reducible refine (lexis_wordly.calls _ true _ hwd).mono ?_); rintro e w' ⟨rfl, ⟨nd, rfl⟩⟩; refine ⟨_, rfl, ?_⟩))
        go_roundw
        case rel =>
          refine ⟨pos + 1, rfl, by omega, ?_, ?_, by repeat (first | (with_reducible first | exact HB.out | apply below_alloc | apply pw_below_drewN | apply below_drew1) | exact HB.out)⟩
          · rw [List.take_add_one, hget]
            simp [hall, hw]
          · (with_reducible repeat (first | refine blk_drewN ?_ _ | refine blk_drew ?_ | refine blk_alloc ?_ _))
            exact hit2
        case measure =>
          have h3 := blk_drewN hit2 nd
          simp only [World.iterPos, h3, hit]
          omega
      · have hw' : wordB c = false := by simpa using hw
        have hwd : lexis_wordly.f (rn : Int) = some false := by
          by_cases hlt : c.toNat < 128
          · have hdec1 : (rn, wd) = (c.toNat, 1) := by rw [← hdec, hc]; exact decode_ascii a0 pos hp (by rw [hc] at hlt; exact hlt)
            rw [(Prod.mk.inj hdec1).1, ← hw']
            exact wordly_word c
          · have h5 := (decode_high a0 pos hp (by rw [hc] at hlt; exact Nat.le_of_not_lt hlt)).1
            rw [hdec] at h5
            exact wordly_high _ h5
        clear hdec hc
        have hhead : headL l = l.take pos := take_all l pos hall (fun d hd => by rw [hget] at hd; rw [← Option.some.inj hd]; exact hw')
        have hex0 := extract_take a0 pos hpl
        rw [← hl.out] at hex0
        have hex := Aside0.mk hex0
        clear hex0
        have hex0 := eq_true (show (0 : Int) ≤ (pos : Int) by omega)
        have hex1 := eq_true (show (pos : Int) ≤ (a0.size : Int) by omega)
        by_cases h0 : 0 < pos
        · have hne : headL l ≠ [] := by rw [hhead]; intro e; have := congrArg List.length e; rw [List.length_take, List.length_nil] at this; omega
          have hE := sort_ev (bytesB (l.take pos))
          obtain ⟨ks, hks⟩ := Ev.rounds hE
          rw [show (bytesB (l.take pos)).data.toList = l.take pos from rfl, ← hex.out] at hks
          obtain ⟨⟨q1, q2⟩, hq0⟩ : ∃ q, q = sortL (l.take pos) := ⟨_, rfl⟩
          rw [← hq0] at hks
          have hq := Aside0.mk hq0
          clear hq0
          cases q2 with
          | true =>
            have hfirst : Aside0 (firstL l = l.take pos) := ⟨by unfold firstL; rw [if_neg hne, hhead, ← hq.out, if_pos rfl]⟩
            go_wp2_with (first | ((with_reducible refine gate_callee (f := 60) rfl ?_); refine goesL_ (some 20) rfl rfl Tryd.func60 (by kernel_rfl) rfl #[.int .i32 _] rfl (by (try simp only [List.map_toArray, List.map_cons, List.map_nil]); first | done | rfl | (simp only [List.length_drop, List.length_take]; rfl)) ?_; (with_reducible refine (lexis_wordly.calls _ false _ hwd).mono ?_); rintro e w' ⟨rfl, ⟨nd, rfl⟩⟩; refine ⟨_, rfl, ?_⟩) | ((with_reducible refine gate_callee (f := 15) rfl ?_); refine goesL_ (some 30) rfl rfl Tryd.func15 (by kernel_rfl) rfl #[.string (a0.extract 0 pos)] rfl (by (try simp only [List.map_toArray, List.map_cons, List.map_nil]); first | done | rfl | (simp only [List.length_drop, List.length_take]; rfl)) ?_; (with_reducible refine (lexis_Sort.calls ks (a0.extract 0 pos) q1 true _ hks ⟨Laid.later HT.out (by repeat (first | (with_reducible first | exact HB.out | apply below_alloc | apply pw_below_drewN | apply below_drew1) | exact HB.out))⟩).mono ?_); rintro e w4 ⟨rfl, hb4⟩; refine ⟨_, rfl, ?_⟩; have n1_ := Aside0.mk (below_step (by repeat (first | (with_reducible first | exact HB.out | apply below_alloc | apply pw_below_drewN | apply below_drew1) | exact HB.out)) hb4); clear HB; have HB := n1_; clear n1_))
            rw [Exit.noGoto_ret]
            go_ret
            exact ⟨by rw [← hl.out, hfirst.out, ← hex.out]; rfl, by repeat (first | (with_reducible first | exact HB.out | apply below_alloc | apply pw_below_drewN | apply below_drew1) | exact HB.out)⟩
          | false =>
            have hfirst : Aside0 (firstL l = []) := ⟨by unfold firstL; rw [if_neg hne, hhead, ← hq.out, if_neg Bool.false_ne_true]⟩
            go_wp2_with (first | ((with_reducible refine gate_callee (f := 60) rfl ?_); refine goesL_ (some 20) rfl rfl Tryd.func60 (by kernel_rfl) rfl #[.int .i32 _] rfl (by (try simp only [List.map_toArray, List.map_cons, List.map_nil]); first | done | rfl | (simp only [List.length_drop, List.length_take]; rfl)) ?_; (with_reducible refine (lexis_wordly.calls _ false _ hwd).mono ?_); rintro e w' ⟨rfl, ⟨nd, rfl⟩⟩; refine ⟨_, rfl, ?_⟩) | ((with_reducible refine gate_callee (f := 15) rfl ?_); refine goesL_ (some 30) rfl rfl Tryd.func15 (by kernel_rfl) rfl #[.string (a0.extract 0 pos)] rfl (by (try simp only [List.map_toArray, List.map_cons, List.map_nil]); first | done | rfl | (simp only [List.length_drop, List.length_take]; rfl)) ?_; (with_reducible refine (lexis_Sort.calls ks (a0.extract 0 pos) q1 false _ hks ⟨Laid.later HT.out (by repeat (first | (with_reducible first | exact HB.out | apply below_alloc | apply pw_below_drewN | apply below_drew1) | exact HB.out))⟩).mono ?_); rintro e w4 ⟨rfl, hb4⟩; refine ⟨_, rfl, ?_⟩; have n1_ := Aside0.mk (below_step (by repeat (first | (with_reducible first | exact HB.out | apply below_alloc | apply pw_below_drewN | apply below_drew1) | exact HB.out)) hb4); clear HB; have HB := n1_; clear n1_))
            rw [Exit.noGoto_ret]
            go_ret
            exact ⟨by rw [← hl.out, hfirst.out]; rfl, by repeat (first | (with_reducible first | exact HB.out | apply below_alloc | apply pw_below_drewN | apply below_drew1) | exact HB.out)⟩
        · have hz : Aside0 (pos = 0) := ⟨by omega⟩
          have hfirst : Aside0 (firstL l = signL l) := ⟨by unfold firstL; rw [if_pos (by rw [hhead, hz.out]; rfl)]⟩
          have he0 : Aside0 (a0.extract 0 pos = bytesB []) := ⟨by rw [hex.out, hz.out]; rfl⟩
          go_wp2_with (first | ((with_reducible refine gate_callee (f := 60) rfl ?_); refine goesL_ (some 20) rfl rfl Tryd.func60 (by kernel_rfl) rfl #[.int .i32 _] rfl (by (try simp only [List.map_toArray, List.map_cons, List.map_nil]); first | done | rfl | (simp only [List.length_drop, List.length_take]; rfl)) ?_; (with_reducible refine (lexis_wordly.calls _ false _ hwd).mono ?_); rintro e w' ⟨rfl, ⟨nd, rfl⟩⟩; refine ⟨_, rfl, ?_⟩))
          go_wp2
          go_step3
          go_wp2_with (first | ((with_reducible refine gate_callee (f := 61) rfl ?_); refine goesL_ (some 36) rfl rfl Tryd.func61 (by kernel_rfl) rfl #[.string (⟨#[40, 32, 41, 32, 91, 32, 93, 32, 123, 32, 125, 32, 60, 32, 62, 32, 33, 32, 63, 32, 38, 32, 124, 32, 43, 32, 59, 32, 42, 32, 45, 62, 32, 60, 45, 62]⟩ : ByteArray)] rfl (by (try simp only [List.map_toArray, List.map_cons, List.map_nil]); first | done | rfl | (simp only [List.length_drop, List.length_take]; rfl)) ?_; (with_reducible refine (strings_Fields.calls (⟨#[40, 32, 41, 32, 91, 32, 93, 32, 123, 32, 125, 32, 60, 32, 62, 32, 33, 32, 63, 32, 38, 32, 124, 32, 43, 32, 59, 32, 42, 32, 45, 62, 32, 60, 45, 62]⟩ : ByteArray) ts _ hfs ⟨Laid.later HT.out (by repeat (first | (with_reducible first | exact HB.out | apply below_alloc | apply pw_below_drewN | apply below_drew1) | exact HB.out))⟩).mono ?_); rintro e w4 ⟨v105, rfl, ho0, hb4⟩; refine ⟨_, rfl, ?_⟩; have n0_ := Aside0.mk (Kd.R_lower ho0 (below_size (by repeat (first | (with_reducible first | exact HB.out | apply below_alloc | apply pw_below_drewN | apply below_drew1) | exact HB.out)))); have n1_ := Aside0.mk (below_step (by repeat (first | (with_reducible first | exact HB.out | apply below_alloc | apply pw_below_drewN | apply below_drew1) | exact HB.out)) hb4); clear HB; have HO := n0_; have HB := n1_; clear n0_ n1_; obtain ⟨Ao, co, eo⟩ := Kd.R_slice HO.out; subst eo))
          go_loopg [6, 38] 17 (fun kq v6 v38 w' => ∃ (b : Bs) (i : Nat) (z : Int), v6 = .string (bytesB b) ∧ v38 = .int .i64 z ∧ Aside0 (z = (i : Int) ∧ i + kq = 17) ∧ Aside0 ((signs.drop i).foldl (longer l) b = signL l) ∧ Aside0 (Kd.R Kd.string 9 w' w.heap.size (fun _ => True) (.slice Ao ts.length co) ts) ∧ Aside0 (Below w.heap.size w w'))
          case atStart => exact ⟨[], 0, 0, by rw [he0.out], rfl, ⟨rfl, rfl⟩, ⟨rfl⟩, ⟨by (with_reducible repeat (first | apply Kd.R_alloc | apply Kd.R_drewN | apply Kd.R_drew)); exact HO.out⟩, ⟨by repeat (first | (with_reducible first | exact HB.out | apply below_alloc | apply pw_below_drewN | apply below_drew1) | exact HB.out)⟩⟩
          case round =>
            clear HO HB
            obtain ⟨b, i, z, rfl, rfl, hz17, hf00, HO, HB⟩ := hrel
            have hi17 : i ≤ 17 := by have := hz17.out.2; omega
            have hf0 := hf00.out
            clear hf00
            cases gk with
            | zero =>
              have cend : decide (z < (ts.length : Int)) = false := by rw [hts.out.1, hz17.out.1, show i = 17 by have := hz17.out.2; omega]; rfl
              have hbb : b = signL l := by rw [show i = 17 by have := hz17.out.2; omega] at hf0; exact hf0
              go_wp2
              rw [Exit.noGoto_ret]
              go_ret
              exact ⟨by rw [← hl.out, hfirst.out, ← hbb]; rfl, by repeat (first | (with_reducible first | exact HB.out | apply below_alloc | apply pw_below_drewN | apply below_drew1) | exact HB.out)⟩
            | succ k1 =>
              have hi : i < signs.length := by rw [signs_len]; have := hz17.out.2; omega
              obtain ⟨x, hx0⟩ : ∃ x, x = signs[i] := ⟨_, rfl⟩
              have hw : Aside0 (wrap64 (z + 1) = ((i + 1 : Nat) : Int)) := ⟨by have h7 := hz17.out.1; clear hsz0 hpl hlen hsz; unfold wrap64; omega⟩
              have hr : rdOf ByteArray.empty ts z = bytesB x := by rw [hx0, hz17.out.1]; exact hts.out.2 i hi
              rw [List.drop_eq_getElem_cons hi, List.foldl_cons, ← hx0, show i + 1 = i + 1 from rfl] at hf0
              clear hx0
              have p107 : 0 ≤ z := by rw [hz17.out.1]; omega
              have q107 : z < (ts.length : Int) := by rw [hts.out.1, hz17.out.1]; rw [signs_len] at hi; omega
              have cin : decide (z < (ts.length : Int)) = true := decide_eq_true q107
              obtain ⟨ad107, e107, hx107⟩ := Kd.at_string (Kd.R_reads' HO.out).2.2 z p107 q107
              cases e107
              rw [hr] at hx107
              replace p107 := eq_true p107
              replace q107 := eq_true q107
              by_cases c1 : ((bytesB x).size : Int) ≤ ((bytesB b).size : Int)
              · have c1b : decide (((bytesB x).size : Int) ≤ ((bytesB b).size : Int)) = true := decide_eq_true c1
                have hf1 : Aside0 ((signs.drop (i + 1)).foldl (longer l) b = signL l) := ⟨by rw [← hf0]; unfold longer; rw [if_pos (by rw [← size_bytesB, ← size_bytesB]; omega)]⟩
                go_wp2
                go_roundg k1
                case measure => omega
                case rel => exact ⟨b, i + 1, _, rfl, rfl, ⟨hw.out, by have := hz17.out.2; omega⟩, hf1, ⟨by (with_reducible repeat (first | apply Kd.R_alloc | apply Kd.R_drewN | apply Kd.R_drew)); exact HO.out⟩, ⟨by repeat (first | (with_reducible first | exact HB.out | apply below_alloc | apply pw_below_drewN | apply below_drew1) | exact HB.out)⟩⟩
              · have c1b : decide (((bytesB x).size : Int) ≤ ((bytesB b).size : Int)) = false := decide_eq_false c1
                cases c2 : x.isPrefixOf l with
                | true =>
                  have hpf := prefix_f a0 x
                  rw [← hl.out, c2] at hpf
                  have hf1 : Aside0 ((signs.drop (i + 1)).foldl (longer l) x = signL l) := ⟨by rw [← hf0]; unfold longer; rw [if_neg (by rw [← size_bytesB, ← size_bytesB]; omega), if_pos c2]⟩
                  go_wp2_with (first | ((with_reducible refine gate_callee (f := 62) rfl ?_); refine goesL_ (some 49) rfl rfl Tryd.func62 (by kernel_rfl) rfl #[.string a0, .string (bytesB x)] rfl (by (try simp only [List.map_toArray, List.map_cons, List.map_nil]); first | done | rfl | (simp only [List.length_drop, List.length_take]; rfl)) ?_; (with_reducible refine (strings_HasPrefix.calls a0 (bytesB x) true _ hpf).mono ?_); rintro e w' ⟨rfl, ⟨nd, rfl⟩⟩; refine ⟨_, rfl, ?_⟩))
                  go_roundg k1
                  case measure => omega
                  case rel => exact ⟨x, i + 1, _, rfl, rfl, ⟨hw.out, by have := hz17.out.2; omega⟩, hf1, ⟨by (with_reducible repeat (first | apply Kd.R_alloc | apply Kd.R_drewN | apply Kd.R_drew)); exact HO.out⟩, ⟨by repeat (first | (with_reducible first | exact HB.out | apply below_alloc | apply pw_below_drewN | apply below_drew1) | exact HB.out)⟩⟩
                | false =>
                  have hpf := prefix_f a0 x
                  rw [← hl.out, c2] at hpf
                  have hf1 : Aside0 ((signs.drop (i + 1)).foldl (longer l) b = signL l) := ⟨by rw [← hf0]; unfold longer; rw [if_neg (by rw [← size_bytesB, ← size_bytesB]; omega), if_neg (by rw [c2]; exact Bool.false_ne_true)]⟩
                  go_wp2_with (first | ((with_reducible refine gate_callee (f := 62) rfl ?_); refine goesL_ (some 49) rfl rfl Tryd.func62 (by kernel_rfl) rfl #[.string a0, .string (bytesB x)] rfl (by (try simp only [List.map_toArray, List.map_cons, List.map_nil]); first | done | rfl | (simp only [List.length_drop, List.length_take]; rfl)) ?_; (with_reducible refine (strings_HasPrefix.calls a0 (bytesB x) false _ hpf).mono ?_); rintro e w' ⟨rfl, ⟨nd, rfl⟩⟩; refine ⟨_, rfl, ?_⟩))
                  go_roundg k1
                  case measure => omega
                  case rel => exact ⟨b, i + 1, _, rfl, rfl, ⟨hw.out, by have := hz17.out.2; omega⟩, hf1, ⟨by (with_reducible repeat (first | apply Kd.R_alloc | apply Kd.R_drewN | apply Kd.R_drew)); exact HO.out⟩, ⟨by repeat (first | (with_reducible first | exact HB.out | apply below_alloc | apply pw_below_drewN | apply below_drew1) | exact HB.out)⟩⟩
    · have hnx : ∀ ty, (Instr.next (.pointer (some ⟨w.heap.size, 0, none⟩)) true ty).run Tryd.prog wr = _ := fun ty => Lib.run_next_end_at wr w.heap.size a0 pos ty hit hp
      have HB := Aside0.mk hb
      have hpe : pos = a0.size := by omega
      have hhead : headL l = l.take a0.size := take_all l a0.size (by rw [← hpe]; exact hall) (fun d hd => by rw [List.getElem?_eq_none (by rw [hl.out, hsz]; exact Nat.le_refl _)] at hd; cases hd)
      have hex0 := extract_take a0 a0.size (Nat.le_refl _)
      rw [← hl.out, extract_all] at hex0
      have hex := Aside0.mk hex0
      clear hex0
      have hex0 := eq_true (show (0 : Int) ≤ (a0.size : Int) by omega)
      have hex1 := eq_true (show (a0.size : Int) ≤ (a0.size : Int) by omega)
      by_cases h0 : 0 < a0.size
      · have hne : headL l ≠ [] := by rw [hhead]; intro e; have := congrArg List.length e; rw [List.length_take, List.length_nil] at this; omega
        have hE := sort_ev (bytesB (l.take a0.size))
        obtain ⟨ks, hks⟩ := Ev.rounds hE
        rw [show (bytesB (l.take a0.size)).data.toList = l.take a0.size from rfl, ← hex.out] at hks
        obtain ⟨⟨q1, q2⟩, hq0⟩ : ∃ q, q = sortL (l.take a0.size) := ⟨_, rfl⟩
        rw [← hq0] at hks
        have hq := Aside0.mk hq0
        clear hq0
        cases q2 with
        | true =>
          have hfirst : Aside0 (firstL l = l.take a0.size) := ⟨by unfold firstL; rw [if_neg hne, hhead, ← hq.out, if_pos rfl]⟩
          go_wp2_with (first | fail | ((with_reducible refine gate_callee (f := 15) rfl ?_); refine goesL_ (some 30) rfl rfl Tryd.func15 (by kernel_rfl) rfl #[.string a0] rfl (by (try simp only [List.map_toArray, List.map_cons, List.map_nil]); first | done | rfl | (simp only [List.length_drop, List.length_take]; rfl)) ?_; (with_reducible refine (lexis_Sort.calls ks a0 q1 true _ hks ⟨Laid.later HT.out (by repeat (first | (with_reducible first | exact HB.out | apply below_alloc | apply pw_below_drewN | apply below_drew1) | exact HB.out))⟩).mono ?_); rintro e w4 ⟨rfl, hb4⟩; refine ⟨_, rfl, ?_⟩; have n1_ := Aside0.mk (below_step (by repeat (first | (with_reducible first | exact HB.out | apply below_alloc | apply pw_below_drewN | apply below_drew1) | exact HB.out)) hb4); clear HB; have HB := n1_; clear n1_))
          rw [Exit.noGoto_ret]
          go_ret
          exact ⟨by rw [← hl.out, hfirst.out, ← hex.out]; rfl, by repeat (first | (with_reducible first | exact HB.out | apply below_alloc | apply pw_below_drewN | apply below_drew1) | exact HB.out)⟩
        | false =>
          have hfirst : Aside0 (firstL l = []) := ⟨by unfold firstL; rw [if_neg hne, hhead, ← hq.out, if_neg Bool.false_ne_true]⟩
          go_wp2_with (first | fail | ((with_reducible refine gate_callee (f := 15) rfl ?_); refine goesL_ (some 30) rfl rfl Tryd.func15 (by kernel_rfl) rfl #[.string a0] rfl (by (try simp only [List.map_toArray, List.map_cons, List.map_nil]); first | done | rfl | (simp only [List.length_drop, List.length_take]; rfl)) ?_; (with_reducible refine (lexis_Sort.calls ks a0 q1 false _ hks ⟨Laid.later HT.out (by repeat (first | (with_reducible first | exact HB.out | apply below_alloc | apply pw_below_drewN | apply below_drew1) | exact HB.out))⟩).mono ?_); rintro e w4 ⟨rfl, hb4⟩; refine ⟨_, rfl, ?_⟩; have n1_ := Aside0.mk (below_step (by repeat (first | (with_reducible first | exact HB.out | apply below_alloc | apply pw_below_drewN | apply below_drew1) | exact HB.out)) hb4); clear HB; have HB := n1_; clear n1_))
          rw [Exit.noGoto_ret]
          go_ret
          exact ⟨by rw [← hl.out, hfirst.out]; rfl, by repeat (first | (with_reducible first | exact HB.out | apply below_alloc | apply pw_below_drewN | apply below_drew1) | exact HB.out)⟩
      · have hz : Aside0 (a0.size = 0) := ⟨by omega⟩
        have hfirst : Aside0 (firstL l = signL l) := ⟨by unfold firstL; rw [if_pos (by rw [hhead, hz.out]; rfl)]⟩
        have he0 : Aside0 (a0 = bytesB []) := ⟨by rw [hex.out, hz.out]; rfl⟩
        go_wp2_with (first | fail)
        go_wp2
        go_step3
        go_wp2_with (first | ((with_reducible refine gate_callee (f := 61) rfl ?_); refine goesL_ (some 36) rfl rfl Tryd.func61 (by kernel_rfl) rfl #[.string (⟨#[40, 32, 41, 32, 91, 32, 93, 32, 123, 32, 125, 32, 60, 32, 62, 32, 33, 32, 63, 32, 38, 32, 124, 32, 43, 32, 59, 32, 42, 32, 45, 62, 32, 60, 45, 62]⟩ : ByteArray)] rfl (by (try simp only [List.map_toArray, List.map_cons, List.map_nil]); first | done | rfl | (simp only [List.length_drop, List.length_take]; rfl)) ?_; (with_reducible refine (strings_Fields.calls (⟨#[40, 32, 41, 32, 91, 32, 93, 32, 123, 32, 125, 32, 60, 32, 62, 32, 33, 32, 63, 32, 38, 32, 124, 32, 43, 32, 59, 32, 42, 32, 45, 62, 32, 60, 45, 62]⟩ : ByteArray) ts _ hfs ⟨Laid.later HT.out (by repeat (first | (with_reducible first | exact HB.out | apply below_alloc | apply pw_below_drewN | apply below_drew1) | exact HB.out))⟩).mono ?_); rintro e w4 ⟨v105, rfl, ho0, hb4⟩; refine ⟨_, rfl, ?_⟩; have n0_ := Aside0.mk (Kd.R_lower ho0 (below_size (by repeat (first | (with_reducible first | exact HB.out | apply below_alloc | apply pw_below_drewN | apply below_drew1) | exact HB.out)))); have n1_ := Aside0.mk (below_step (by repeat (first | (with_reducible first | exact HB.out | apply below_alloc | apply pw_below_drewN | apply below_drew1) | exact HB.out)) hb4); clear HB; have HO := n0_; have HB := n1_; clear n0_ n1_; obtain ⟨Ao, co, eo⟩ := Kd.R_slice HO.out; subst eo))
        go_loopg [6, 38] 17 (fun kq v6 v38 w' => ∃ (b : Bs) (i : Nat) (z : Int), v6 = .string (bytesB b) ∧ v38 = .int .i64 z ∧ Aside0 (z = (i : Int) ∧ i + kq = 17) ∧ Aside0 ((signs.drop i).foldl (longer l) b = signL l) ∧ Aside0 (Kd.R Kd.string 9 w' w.heap.size (fun _ => True) (.slice Ao ts.length co) ts) ∧ Aside0 (Below w.heap.size w w'))
        case atStart => exact ⟨[], 0, 0, by rw [he0.out], rfl, ⟨rfl, rfl⟩, ⟨rfl⟩, ⟨by (with_reducible repeat (first | apply Kd.R_alloc | apply Kd.R_drewN | apply Kd.R_drew)); exact HO.out⟩, ⟨by repeat (first | (with_reducible first | exact HB.out | apply below_alloc | apply pw_below_drewN | apply below_drew1) | exact HB.out)⟩⟩
        case round =>
          clear HO HB
          obtain ⟨b, i, z, rfl, rfl, hz17, hf00, HO, HB⟩ := hrel
          have hi17 : i ≤ 17 := by have := hz17.out.2; omega
          have hf0 := hf00.out
          clear hf00
          cases gk with
          | zero =>
            have cend : decide (z < (ts.length : Int)) = false := by rw [hts.out.1, hz17.out.1, show i = 17 by have := hz17.out.2; omega]; rfl
            have hbb : b = signL l := by rw [show i = 17 by have := hz17.out.2; omega] at hf0; exact hf0
            go_wp2
            rw [Exit.noGoto_ret]
            go_ret
            exact ⟨by rw [← hl.out, hfirst.out, ← hbb]; rfl, by repeat (first | (with_reducible first | exact HB.out | apply below_alloc | apply pw_below_drewN | apply below_drew1) | exact HB.out)⟩
          | succ k1 =>
            have hi : i < signs.length := by rw [signs_len]; have := hz17.out.2; omega
            obtain ⟨x, hx0⟩ : ∃ x, x = signs[i] := ⟨_, rfl⟩
            have hw : Aside0 (wrap64 (z + 1) = ((i + 1 : Nat) : Int)) := ⟨by have h7 := hz17.out.1; clear hsz0 hpl hlen hsz; unfold wrap64; omega⟩
            have hr : rdOf ByteArray.empty ts z = bytesB x := by rw [hx0, hz17.out.1]; exact hts.out.2 i hi
            rw [List.drop_eq_getElem_cons hi, List.foldl_cons, ← hx0, show i + 1 = i + 1 from rfl] at hf0
            clear hx0
            have p107 : 0 ≤ z := by rw [hz17.out.1]; omega
            have q107 : z < (ts.length : Int) := by rw [hts.out.1, hz17.out.1]; rw [signs_len] at hi; omega
            have cin : decide (z < (ts.length : Int)) = true := decide_eq_true q107
            obtain ⟨ad107, e107, hx107⟩ := Kd.at_string (Kd.R_reads' HO.out).2.2 z p107 q107
            cases e107
            rw [hr] at hx107
            replace p107 := eq_true p107
            replace q107 := eq_true q107
            by_cases c1 : ((bytesB x).size : Int) ≤ ((bytesB b).size : Int)
            · have c1b : decide (((bytesB x).size : Int) ≤ ((bytesB b).size : Int)) = true := decide_eq_true c1
              have hf1 : Aside0 ((signs.drop (i + 1)).foldl (longer l) b = signL l) := ⟨by rw [← hf0]; unfold longer; rw [if_pos (by rw [← size_bytesB, ← size_bytesB]; omega)]⟩
              go_wp2
              go_roundg k1
              case measure => omega
              case rel => exact ⟨b, i + 1, _, rfl, rfl, ⟨hw.out, by have := hz17.out.2; omega⟩, hf1, ⟨by (with_reducible repeat (first | apply Kd.R_alloc | apply Kd.R_drewN | apply Kd.R_drew)); exact HO.out⟩, ⟨by repeat (first | (with_reducible first | exact HB.out | apply below_alloc | apply pw_below_drewN | apply below_drew1) | exact HB.out)⟩⟩
            · have c1b : decide (((bytesB x).size : Int) ≤ ((bytesB b).size : Int)) = false := decide_eq_false c1
              cases c2 : x.isPrefixOf l with
              | true =>
                have hpf := prefix_f a0 x
                rw [← hl.out, c2] at hpf
                have hf1 : Aside0 ((signs.drop (i + 1)).foldl (longer l) x = signL l) := ⟨by rw [← hf0]; unfold longer; rw [if_neg (by rw [← size_bytesB, ← size_bytesB]; omega), if_pos c2]⟩
                go_wp2_with (first | ((with_reducible refine gate_callee (f := 62) rfl ?_); refine goesL_ (some 49) rfl rfl Tryd.func62 (by kernel_rfl) rfl #[.string a0, .string (bytesB x)] rfl (by (try simp only [List.map_toArray, List.map_cons, List.map_nil]); first | done | rfl | (simp only [List.length_drop, List.length_take]; rfl)) ?_; (with_reducible refine (strings_HasPrefix.calls a0 (bytesB x) true _ hpf).mono ?_); rintro e w' ⟨rfl, ⟨nd, rfl⟩⟩; refine ⟨_, rfl, ?_⟩))
                go_roundg k1
                case measure => omega
                case rel => exact ⟨x, i + 1, _, rfl, rfl, ⟨hw.out, by have := hz17.out.2; omega⟩, hf1, ⟨by (with_reducible repeat (first | apply Kd.R_alloc | apply Kd.R_drewN | apply Kd.R_drew)); exact HO.out⟩, ⟨by repeat (first | (with_reducible first | exact HB.out | apply below_alloc | apply pw_below_drewN | apply below_drew1) | exact HB.out)⟩⟩
              | false =>
                have hpf := prefix_f a0 x
                rw [← hl.out, c2] at hpf
                have hf1 : Aside0 ((signs.drop (i + 1)).foldl (longer l) b = signL l) := ⟨by rw [← hf0]; unfold longer; rw [if_neg (by rw [← size_bytesB, ← size_bytesB]; omega), if_neg (by rw [c2]; exact Bool.false_ne_true)]⟩
                go_wp2_with (first | ((with_reducible refine gate_callee (f := 62) rfl ?_); refine goesL_ (some 49) rfl rfl Tryd.func62 (by kernel_rfl) rfl #[.string a0, .string (bytesB x)] rfl (by (try simp only [List.map_toArray, List.map_cons, List.map_nil]); first | done | rfl | (simp only [List.length_drop, List.length_take]; rfl)) ?_; (with_reducible refine (strings_HasPrefix.calls a0 (bytesB x) false _ hpf).mono ?_); rintro e w' ⟨rfl, ⟨nd, rfl⟩⟩; refine ⟨_, rfl, ?_⟩))
                go_roundg k1
                case measure => omega
                case rel => exact ⟨b, i + 1, _, rfl, rfl, ⟨hw.out, by have := hz17.out.2; omega⟩, hf1, ⟨by (with_reducible repeat (first | apply Kd.R_alloc | apply Kd.R_drewN | apply Kd.R_drew)); exact HO.out⟩, ⟨by repeat (first | (with_reducible first | exact HB.out | apply below_alloc | apply pw_below_drewN | apply below_drew1) | exact HB.out)⟩⟩
end Go.Proofs.YtaogoabnidbbpaaDoor.PText
