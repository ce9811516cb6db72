/- Texts of this work merged into one file, what the law does not need left out: TextFirst; PTextx5b. Conditions stand in each law. -/
import Derived.Below
import Derived.Deep.Draws
import Derived.Deep.AppendLies
import Derived.Maps.AppendAt
import Derived.OwnWalk
import Derived.Laws.BytesArg
import Derived.Laws.MakeOwn
import Derived.Laws.OwnMore
import Derived.Deep.OwnRows
import Derived.Tactics
import Derived.Lib.ConvBytes
import Derived.Laws.Slices
import Derived.WalkKit
import Derived.KernelRfl
import Derived.RowKit3
import Derived.Deep.LoopGhost
import Derived.Deep.QuietTactic
import Derived.BigQuiet
import Derived.WideLaws
import Derived.Deep.DeepCutAuto
import Derived.Deep.CutBlock
import Derived.Deep.RegionHeld3
import Derived.Laws.Rows
import Derived.Lib.AppendStr
import Derived.ArgAppend
import Derived.Laws.IdiomCopy
import Derived.RowKit
import Derived.OrdersHeld
import Derived.Laws.BitsLemmas
import Derived.Laws.StructEq
import Derived.Test.YtaogoabnidbbpaaDoorProg
import Derived.Shelf.Strings.Builder1
import Derived.Shelf.Strings.BuilderF
import Derived.Shelf.Strings.BuilderK
import Derived.Shelf.Strings.Fields
import Derived.Lib.SmallJoins
import Derived.BigCall
import Derived.WalkMore
import Derived.Lib.OthersKept
import Derived.Test.YtaogoabnidbbpaaDoorSf1
import Derived.Test.YtaogoabnidbbpaaDoorSf2
import Derived.Test.YtaogoabnidbbpaaDoorSf3
import Derived.Test.YtaogoabnidbbpaaDoorSf4
import Derived.Test.YtaogoabnidbbpaaDoorSf5
import Derived.Test.YtaogoabnidbbpaaDoorSf6
import Derived.Test.YtaogoabnidbbpaaDoorSf7
import Derived.Test.YtaogoabnidbbpaaDoorSf8
import Derived.Test.YtaogoabnidbbpaaDoorSf9
/-! TextFirst -/
namespace Go.Proofs.YtaogoabnidbbpaaDoor.PText
open Go.RowKit Go.Proofs.YtaogoabnidbbpaaDoorW.PrintWords Go.Proofs.YtaogoabnidbbpaaDoorW.PrintLast Go.Proofs.YtaogoabnidbbpaaDoorW.PrintMore
set_option linter.unusedVariables false
def longer (l b x : Bs) : Bs := if x.length ≤ b.length then b else if x.isPrefixOf l then x else b
def signL (l : Bs) : Bs := signs.foldl (longer l) []
def headL (l : Bs) : Bs := l.takeWhile wordB
def firstL (l : Bs) : Bs := if headL l = [] then signL l else if (sortL (headL l)).2 = true then headL l else []
def lexis_first.f (s : ByteArray) : Option ByteArray := some (bytesB (firstL s.data.toList))
theorem wordly_all : ∀ a : Fin 256, lexis_wordly.f (a.val : Int) = some (wordB (UInt8.ofNat a.val)) := by decide +kernel
theorem wordly_word (c : UInt8) : lexis_wordly.f (c.toNat : Int) = some (wordB c) := by
  have := wordly_all ⟨c.toNat, c.toNat_lt⟩
  rw [show UInt8.ofNat c.toNat = c from UInt8.ofNat_toNat] at this
  exact this
theorem wordly_high (n : Nat) (h : 128 ≤ n) : lexis_wordly.f (n : Int) = some false := by
  unfold lexis_wordly.f
  rw [if_pos (by omega), if_neg (by omega), if_pos (by omega), if_neg (by omega), if_pos (by omega)]
  rw [decide_eq_false (by omega)]
theorem take_all (l : Bs) (n : Nat) (h : (l.take n).all wordB = true) (he : ∀ c, l[n]? = some c → wordB c = false) : headL l = l.take n := by
  induction n generalizing l with
  | zero =>
    cases l with
    | nil => rfl
    | cons c t => simp only [headL, List.takeWhile_cons, he c rfl]; rfl
  | succ n ih =>
    cases l with
    | nil => rfl
    | cons c t =>
      rw [List.take_succ_cons, List.all_cons, Bool.and_eq_true] at h
      have := ih t h.2 (fun d hd => he d (by simpa using hd))
      unfold headL at this ⊢
      rw [List.takeWhile_cons, h.1]
      simp [this]
theorem extract_take (s : ByteArray) (n : Nat) (h : n ≤ s.size) : s.extract 0 n = bytesB (s.data.toList.take n) := by
  apply ByteArray.ext
  rw [ByteArray.data_extract]
  apply Array.ext'
  simp
  rfl
theorem word_all : ∀ a : Fin 256, wordB (UInt8.ofNat a.val) = true → a.val < 128 := by decide +kernel
theorem word_low (c : UInt8) (h : wordB c = true) : c.toNat < 128 := by
  have := word_all ⟨c.toNat, c.toNat_lt⟩
  rw [show UInt8.ofNat c.toNat = c from UInt8.ofNat_toNat] at this
  exact this h
theorem size_bytesB (x : Bs) : (bytesB x).size = x.length := by simp [bytesB, ByteArray.size]
theorem rd_map (xs : List Bs) (i : Nat) (h : i < xs.length) : rdOf ByteArray.empty (xs.map bytesB) (i : Int) = bytesB xs[i] := by
  unfold rdOf
  rw [Int.toNat_natCast]
  simp [List.getD_eq_getElem?_getD, h]
theorem extract_all (s : ByteArray) : s.extract 0 s.size = s := by simp
theorem signs_len : signs.length = 17 := rfl
theorem prefix_f (s : ByteArray) (x : Bs) : strings_HasPrefix.f s (bytesB x) = some (x.isPrefixOf s.data.toList) := by
  have hs := size_eq s
  have hx := size_bytesB x
  have hc : stringslite_HasPrefix.f s (bytesB x) = some (x.isPrefixOf s.data.toList) := by
    unfold stringslite_HasPrefix.f
    by_cases h1 : x.length ≤ s.size
    · rw [if_pos (by omega), if_pos (by omega), if_pos (by omega), hx, Int.toNat_natCast, extract_take s x.length h1, bytes_eq, bytes_eq]
      congr 1
      by_cases h2 : x <+: s.data.toList
      · rw [List.isPrefixOf_iff_prefix.2 h2]
        rw [beq_iff_eq]
        exact (List.prefix_iff_eq_take.1 h2).symm
      · have h3 : x.isPrefixOf s.data.toList = false := by
          rw [Bool.eq_false_iff]
          exact fun e => h2 (List.isPrefixOf_iff_prefix.1 e)
        rw [h3, beq_eq_false_iff_ne]
        exact fun e => h2 (e ▸ List.take_prefix _ _)
    · rw [if_neg (by omega)]
      congr 1
      symm
      rw [Bool.eq_false_iff]
      intro e
      have := (List.isPrefixOf_iff_prefix.1 e).length_le
      omega
  unfold strings_HasPrefix.f
  rw [hc]
  rfl
set_option maxHeartbeats 8000000 in
set_option maxRecDepth 100000 in
theorem lexis_first.calls (a0 : ByteArray) (r : ByteArray) (w : World) (h : lexis_first.f a0 = some r) (HT : Aside0 (Laid w) := by exact ⟨Laid.later HT.out (by repeat (first | (with_reducible first | exact HB.out | apply below_alloc | apply pw_below_drewN | apply below_drew1) | exact HB.out))⟩) :
    Calls Tryd.prog 40 #[.string a0] w fun e w' => e = .returned (.string r) ∧ Below w.heap.size w w' := by
  have hr := Option.some.inj h
  clear h
  subst hr
  have hsz := size_eq a0
  obtain ⟨l, hl0⟩ : ∃ l, l = a0.data.toList := ⟨_, rfl⟩
  have hl := Aside0.mk hl0
  clear hl0
  have hlen : l.length = a0.size := by rw [hl.out]; exact hsz
  obtain ⟨ts, hfs, hts⟩ : ∃ ts, strings_Fields.f (⟨#[40, 32, 41, 32, 91, 32, 93, 32, 123, 32, 125, 32, 60, 32, 62, 32, 33, 32, 63, 32, 38, 32, 124, 32, 43, 32, 59, 32, 42, 32, 45, 62, 32, 60, 45, 62]⟩ : ByteArray) = some ts ∧ Aside0 (ts.length = 17 ∧ ∀ i (h : i < signs.length), rdOf ByteArray.empty ts (i : Int) = bytesB signs[i]) := ⟨signs.map bytesB, fields_signs, ⟨by rw [List.length_map]; exact signs_len, fun i h => rd_map signs i h⟩⟩
  go_enter Tryd.func40, Tryd.ntmps40
  go_wp2
  go_step3
  go_wp2
  go_loopw [3] (fun v3 wr => ∃ (pos : Nat), v3 = .int .i64 (a0.size : Int) ∧ pos ≤ a0.size ∧ (l.take pos).all wordB = true ∧ wr.heap[w.heap.size]? = some (.stringIter a0 pos) ∧ Below w.heap.size w wr) (fun v3 wr => a0.size - wr.iterPos w.heap.size)
  case atStart =>
    refine ⟨0, rfl, Nat.zero_le _, by simp, ?_, below_alloc (Below.refl _ w) _⟩
    have := World.iter_heap w a0 0
    simpa using this
  case round =>
    obtain ⟨pos, rfl, hpl, hall, hit, hb⟩ := hrel
    have hsz0 : w.heap.size < wr.heap.size := (Array.getElem?_eq_some_iff.1 hit).1
    by_cases hp : pos < a0.size
    · obtain ⟨rn, wd, hdec⟩ : ∃ rn wd, Utf8.decode a0 pos = (rn, wd) := ⟨_, _, rfl⟩
      have hnx : ∀ ty, (Instr.next (.pointer (some ⟨w.heap.size, 0, none⟩)) true ty).run Tryd.prog wr = .ok (.tuple #[.bool true, .int .i64 pos, .int .i32 rn]) (wr.iterAt w.heap.size a0 (pos + wd)) := by
        intro ty
        have := Lib.run_next_any_at (P := Tryd.prog) wr w.heap.size a0 pos ty hit hp
        rw [hdec] at this
        exact this
      have hit2 := Lib.iterAt_heap wr w.heap.size a0 pos (pos + wd) hit
      have hbw2 := Lib.below_iterAt hb (k := w.heap.size) (by omega) a0 (pos + wd)
      obtain ⟨c, hc⟩ : ∃ c, c = a0.data.toList[pos]'(by rw [hsz]; exact hp) := ⟨_, rfl⟩
      have hget : l[pos]? = some c := by rw [hl.out, hc]; exact List.getElem?_eq_getElem _
      have HB := Aside0.mk hbw2
      by_cases hw : wordB c = true
      · have hlt : c.toNat < 128 := word_low c hw
        have hdec1 : (rn, wd) = (c.toNat, 1) := by rw [← hdec, hc]; exact decode_ascii a0 pos hp (by rw [hc] at hlt; exact hlt)
        obtain ⟨hrn, rfl⟩ := Prod.mk.inj hdec1
        have hwd : lexis_wordly.f (rn : Int) = some true := by rw [hrn, ← hw]; exact wordly_word c
        clear hdec1 hdec hrn hc
        go_wp2_with (first | ((with_reducible refine gate_callee (f := 60) rfl ?_); refine goesL_ (some 20) rfl rfl Tryd.func60 (by kernel_rfl) rfl #[.int .i32 _] rfl (by (try simp only [List.map_toArray, List.map_cons, List.map_nil]); first | done | rfl | (simp only [List.length_drop, List.length_take]; rfl)) ?_; (with_reducible refine (lexis_wordly.calls _ true _ hwd).mono ?_); rintro e w' ⟨rfl, ⟨nd, rfl⟩⟩; refine ⟨_, rfl, ?_⟩))
        go_roundw
        case rel =>
          refine ⟨pos + 1, rfl, by omega, ?_, ?_, by repeat (first | (with_reducible first | exact HB.out | apply below_alloc | apply pw_below_drewN | apply below_drew1) | exact HB.out)⟩
          · rw [List.take_add_one, hget]
            simp [hall, hw]
          · (with_reducible repeat (first | refine blk_drewN ?_ _ | refine blk_drew ?_ | refine blk_alloc ?_ _))
            exact hit2
        case measure =>
          have h3 := blk_drewN hit2 nd
          simp only [World.iterPos, h3, hit]
          omega
      · have hw' : wordB c = false := by simpa using hw
        have hwd : lexis_wordly.f (rn : Int) = some false := by
          by_cases hlt : c.toNat < 128
          · have hdec1 : (rn, wd) = (c.toNat, 1) := by rw [← hdec, hc]; exact decode_ascii a0 pos hp (by rw [hc] at hlt; exact hlt)
            rw [(Prod.mk.inj hdec1).1, ← hw']
            exact wordly_word c
          · have h5 := (decode_high a0 pos hp (by rw [hc] at hlt; exact Nat.le_of_not_lt hlt)).1
            rw [hdec] at h5
            exact wordly_high _ h5
        clear hdec hc
        have hhead : headL l = l.take pos := take_all l pos hall (fun d hd => by rw [hget] at hd; rw [← Option.some.inj hd]; exact hw')
        have hex0 := extract_take a0 pos hpl
        rw [← hl.out] at hex0
        have hex := Aside0.mk hex0
        clear hex0
        have hex0 := eq_true (show (0 : Int) ≤ (pos : Int) by omega)
        have hex1 := eq_true (show (pos : Int) ≤ (a0.size : Int) by omega)
        by_cases h0 : 0 < pos
        · have hne : headL l ≠ [] := by rw [hhead]; intro e; have := congrArg List.length e; rw [List.length_take, List.length_nil] at this; omega
          have hE := sort_ev (bytesB (l.take pos))
          obtain ⟨ks, hks⟩ := Ev.rounds hE
          rw [show (bytesB (l.take pos)).data.toList = l.take pos from rfl, ← hex.out] at hks
          obtain ⟨⟨q1, q2⟩, hq0⟩ : ∃ q, q = sortL (l.take pos) := ⟨_, rfl⟩
          rw [← hq0] at hks
          have hq := Aside0.mk hq0
          clear hq0
          cases q2 with
          | true =>
            have hfirst : Aside0 (firstL l = l.take pos) := ⟨by unfold firstL; rw [if_neg hne, hhead, ← hq.out, if_pos rfl]⟩
            go_wp2_with (first | ((with_reducible refine gate_callee (f := 60) rfl ?_); refine goesL_ (some 20) rfl rfl Tryd.func60 (by kernel_rfl) rfl #[.int .i32 _] rfl (by (try simp only [List.map_toArray, List.map_cons, List.map_nil]); first | done | rfl | (simp only [List.length_drop, List.length_take]; rfl)) ?_; (with_reducible refine (lexis_wordly.calls _ false _ hwd).mono ?_); rintro e w' ⟨rfl, ⟨nd, rfl⟩⟩; refine ⟨_, rfl, ?_⟩) | ((with_reducible refine gate_callee (f := 15) rfl ?_); refine goesL_ (some 30) rfl rfl Tryd.func15 (by kernel_rfl) rfl #[.string (a0.extract 0 pos)] rfl (by (try simp only [List.map_toArray, List.map_cons, List.map_nil]); first | done | rfl | (simp only [List.length_drop, List.length_take]; rfl)) ?_; (with_reducible refine (lexis_Sort.calls ks (a0.extract 0 pos) q1 true _ hks ⟨Laid.later HT.out (by repeat (first | (with_reducible first | exact HB.out | apply below_alloc | apply pw_below_drewN | apply below_drew1) | exact HB.out))⟩).mono ?_); rintro e w4 ⟨rfl, hb4⟩; refine ⟨_, rfl, ?_⟩; have n1_ := Aside0.mk (below_step (by repeat (first | (with_reducible first | exact HB.out | apply below_alloc | apply pw_below_drewN | apply below_drew1) | exact HB.out)) hb4); clear HB; have HB := n1_; clear n1_))
            rw [Exit.noGoto_ret]
            go_ret
            exact ⟨by rw [← hl.out, hfirst.out, ← hex.out]; rfl, by repeat (first | (with_reducible first | exact HB.out | apply below_alloc | apply pw_below_drewN | apply below_drew1) | exact HB.out)⟩
          | false =>
            have hfirst : Aside0 (firstL l = []) := ⟨by unfold firstL; rw [if_neg hne, hhead, ← hq.out, if_neg Bool.false_ne_true]⟩
            go_wp2_with (first | ((with_reducible refine gate_callee (f := 60) rfl ?_); refine goesL_ (some 20) rfl rfl Tryd.func60 (by kernel_rfl) rfl #[.int .i32 _] rfl (by (try simp only [List.map_toArray, List.map_cons, List.map_nil]); first | done | rfl | (simp only [List.length_drop, List.length_take]; rfl)) ?_; (with_reducible refine (lexis_wordly.calls _ false _ hwd).mono ?_); rintro e w' ⟨rfl, ⟨nd, rfl⟩⟩; refine ⟨_, rfl, ?_⟩) | ((with_reducible refine gate_callee (f := 15) rfl ?_); refine goesL_ (some 30) rfl rfl Tryd.func15 (by kernel_rfl) rfl #[.string (a0.extract 0 pos)] rfl (by (try simp only [List.map_toArray, List.map_cons, List.map_nil]); first | done | rfl | (simp only [List.length_drop, List.length_take]; rfl)) ?_; (with_reducible refine (lexis_Sort.calls ks (a0.extract 0 pos) q1 false _ hks ⟨Laid.later HT.out (by repeat (first | (with_reducible first | exact HB.out | apply below_alloc | apply pw_below_drewN | apply below_drew1) | exact HB.out))⟩).mono ?_); rintro e w4 ⟨rfl, hb4⟩; refine ⟨_, rfl, ?_⟩; have n1_ := Aside0.mk (below_step (by repeat (first | (with_reducible first | exact HB.out | apply below_alloc | apply pw_below_drewN | apply below_drew1) | exact HB.out)) hb4); clear HB; have HB := n1_; clear n1_))
            rw [Exit.noGoto_ret]
            go_ret
            exact ⟨by rw [← hl.out, hfirst.out]; rfl, by repeat (first | (with_reducible first | exact HB.out | apply below_alloc | apply pw_below_drewN | apply below_drew1) | exact HB.out)⟩
        · have hz : Aside0 (pos = 0) := ⟨by omega⟩
          have hfirst : Aside0 (firstL l = signL l) := ⟨by unfold firstL; rw [if_pos (by rw [hhead, hz.out]; rfl)]⟩
          have he0 : Aside0 (a0.extract 0 pos = bytesB []) := ⟨by rw [hex.out, hz.out]; rfl⟩
          go_wp2_with (first | ((with_reducible refine gate_callee (f := 60) rfl ?_); refine goesL_ (some 20) rfl rfl Tryd.func60 (by kernel_rfl) rfl #[.int .i32 _] rfl (by (try simp only [List.map_toArray, List.map_cons, List.map_nil]); first | done | rfl | (simp only [List.length_drop, List.length_take]; rfl)) ?_; (with_reducible refine (lexis_wordly.calls _ false _ hwd).mono ?_); rintro e w' ⟨rfl, ⟨nd, rfl⟩⟩; refine ⟨_, rfl, ?_⟩))
          go_wp2
          go_step3
          go_wp2_with (first | ((with_reducible refine gate_callee (f := 61) rfl ?_); refine goesL_ (some 36) rfl rfl Tryd.func61 (by kernel_rfl) rfl #[.string (⟨#[40, 32, 41, 32, 91, 32, 93, 32, 123, 32, 125, 32, 60, 32, 62, 32, 33, 32, 63, 32, 38, 32, 124, 32, 43, 32, 59, 32, 42, 32, 45, 62, 32, 60, 45, 62]⟩ : ByteArray)] rfl (by (try simp only [List.map_toArray, List.map_cons, List.map_nil]); first | done | rfl | (simp only [List.length_drop, List.length_take]; rfl)) ?_; (with_reducible refine (strings_Fields.calls (⟨#[40, 32, 41, 32, 91, 32, 93, 32, 123, 32, 125, 32, 60, 32, 62, 32, 33, 32, 63, 32, 38, 32, 124, 32, 43, 32, 59, 32, 42, 32, 45, 62, 32, 60, 45, 62]⟩ : ByteArray) ts _ hfs ⟨Laid.later HT.out (by repeat (first | (with_reducible first | exact HB.out | apply below_alloc | apply pw_below_drewN | apply below_drew1) | exact HB.out))⟩).mono ?_); rintro e w4 ⟨v105, rfl, ho0, hb4⟩; refine ⟨_, rfl, ?_⟩; have n0_ := Aside0.mk (Kd.R_lower ho0 (below_size (by repeat (first | (with_reducible first | exact HB.out | apply below_alloc | apply pw_below_drewN | apply below_drew1) | exact HB.out)))); have n1_ := Aside0.mk (below_step (by repeat (first | (with_reducible first | exact HB.out | apply below_alloc | apply pw_below_drewN | apply below_drew1) | exact HB.out)) hb4); clear HB; have HO := n0_; have HB := n1_; clear n0_ n1_; obtain ⟨Ao, co, eo⟩ := Kd.R_slice HO.out; subst eo))
          go_loopg [6, 38] 17 (fun kq v6 v38 w' => ∃ (b : Bs) (i : Nat) (z : Int), v6 = .string (bytesB b) ∧ v38 = .int .i64 z ∧ Aside0 (z = (i : Int) ∧ i + kq = 17) ∧ Aside0 ((signs.drop i).foldl (longer l) b = signL l) ∧ Aside0 (Kd.R Kd.string 9 w' w.heap.size (fun _ => True) (.slice Ao ts.length co) ts) ∧ Aside0 (Below w.heap.size w w'))
          case atStart => exact ⟨[], 0, 0, by rw [he0.out], rfl, ⟨rfl, rfl⟩, ⟨rfl⟩, ⟨by (with_reducible repeat (first | apply Kd.R_alloc | apply Kd.R_drewN | apply Kd.R_drew)); exact HO.out⟩, ⟨by repeat (first | (with_reducible first | exact HB.out | apply below_alloc | apply pw_below_drewN | apply below_drew1) | exact HB.out)⟩⟩
          case round =>
            clear HO HB
            obtain ⟨b, i, z, rfl, rfl, hz17, hf00, HO, HB⟩ := hrel
            have hi17 : i ≤ 17 := by have := hz17.out.2; omega
            have hf0 := hf00.out
            clear hf00
            cases gk with
            | zero =>
              have cend : decide (z < (ts.length : Int)) = false := by rw [hts.out.1, hz17.out.1, show i = 17 by have := hz17.out.2; omega]; rfl
              have hbb : b = signL l := by rw [show i = 17 by have := hz17.out.2; omega] at hf0; exact hf0
              go_wp2
              rw [Exit.noGoto_ret]
              go_ret
              exact ⟨by rw [← hl.out, hfirst.out, ← hbb]; rfl, by repeat (first | (with_reducible first | exact HB.out | apply below_alloc | apply pw_below_drewN | apply below_drew1) | exact HB.out)⟩
            | succ k1 =>
              have hi : i < signs.length := by rw [signs_len]; have := hz17.out.2; omega
              obtain ⟨x, hx0⟩ : ∃ x, x = signs[i] := ⟨_, rfl⟩
              have hw : Aside0 (wrap64 (z + 1) = ((i + 1 : Nat) : Int)) := ⟨by have h7 := hz17.out.1; clear hsz0 hpl hlen hsz; unfold wrap64; omega⟩
              have hr : rdOf ByteArray.empty ts z = bytesB x := by rw [hx0, hz17.out.1]; exact hts.out.2 i hi
              rw [List.drop_eq_getElem_cons hi, List.foldl_cons, ← hx0, show i + 1 = i + 1 from rfl] at hf0
              clear hx0
              have p107 : 0 ≤ z := by rw [hz17.out.1]; omega
              have q107 : z < (ts.length : Int) := by rw [hts.out.1, hz17.out.1]; rw [signs_len] at hi; omega
              have cin : decide (z < (ts.length : Int)) = true := decide_eq_true q107
              obtain ⟨ad107, e107, hx107⟩ := Kd.at_string (Kd.R_reads' HO.out).2.2 z p107 q107
              cases e107
              rw [hr] at hx107
              replace p107 := eq_true p107
              replace q107 := eq_true q107
              by_cases c1 : ((bytesB x).size : Int) ≤ ((bytesB b).size : Int)
              · have c1b : decide (((bytesB x).size : Int) ≤ ((bytesB b).size : Int)) = true := decide_eq_true c1
                have hf1 : Aside0 ((signs.drop (i + 1)).foldl (longer l) b = signL l) := ⟨by rw [← hf0]; unfold longer; rw [if_pos (by rw [← size_bytesB, ← size_bytesB]; omega)]⟩
                go_wp2
                go_roundg k1
                case measure => omega
                case rel => exact ⟨b, i + 1, _, rfl, rfl, ⟨hw.out, by have := hz17.out.2; omega⟩, hf1, ⟨by (with_reducible repeat (first | apply Kd.R_alloc | apply Kd.R_drewN | apply Kd.R_drew)); exact HO.out⟩, ⟨by repeat (first | (with_reducible first | exact HB.out | apply below_alloc | apply pw_below_drewN | apply below_drew1) | exact HB.out)⟩⟩
              · have c1b : decide (((bytesB x).size : Int) ≤ ((bytesB b).size : Int)) = false := decide_eq_false c1
                cases c2 : x.isPrefixOf l with
                | true =>
                  have hpf := prefix_f a0 x
                  rw [← hl.out, c2] at hpf
                  have hf1 : Aside0 ((signs.drop (i + 1)).foldl (longer l) x = signL l) := ⟨by rw [← hf0]; unfold longer; rw [if_neg (by rw [← size_bytesB, ← size_bytesB]; omega), if_pos c2]⟩
                  go_wp2_with (first | ((with_reducible refine gate_callee (f := 62) rfl ?_); refine goesL_ (some 49) rfl rfl Tryd.func62 (by kernel_rfl) rfl #[.string a0, .string (bytesB x)] rfl (by (try simp only [List.map_toArray, List.map_cons, List.map_nil]); first | done | rfl | (simp only [List.length_drop, List.length_take]; rfl)) ?_; (with_reducible refine (strings_HasPrefix.calls a0 (bytesB x) true _ hpf).mono ?_); rintro e w' ⟨rfl, ⟨nd, rfl⟩⟩; refine ⟨_, rfl, ?_⟩))
                  go_roundg k1
                  case measure => omega
                  case rel => exact ⟨x, i + 1, _, rfl, rfl, ⟨hw.out, by have := hz17.out.2; omega⟩, hf1, ⟨by (with_reducible repeat (first | apply Kd.R_alloc | apply Kd.R_drewN | apply Kd.R_drew)); exact HO.out⟩, ⟨by repeat (first | (with_reducible first | exact HB.out | apply below_alloc | apply pw_below_drewN | apply below_drew1) | exact HB.out)⟩⟩
                | false =>
                  have hpf := prefix_f a0 x
                  rw [← hl.out, c2] at hpf
                  have hf1 : Aside0 ((signs.drop (i + 1)).foldl (longer l) b = signL l) := ⟨by rw [← hf0]; unfold longer; rw [if_neg (by rw [← size_bytesB, ← size_bytesB]; omega), if_neg (by rw [c2]; exact Bool.false_ne_true)]⟩
                  go_wp2_with (first | ((with_reducible refine gate_callee (f := 62) rfl ?_); refine goesL_ (some 49) rfl rfl Tryd.func62 (by kernel_rfl) rfl #[.string a0, .string (bytesB x)] rfl (by (try simp only [List.map_toArray, List.map_cons, List.map_nil]); first | done | rfl | (simp only [List.length_drop, List.length_take]; rfl)) ?_; (with_reducible refine (strings_HasPrefix.calls a0 (bytesB x) false _ hpf).mono ?_); rintro e w' ⟨rfl, ⟨nd, rfl⟩⟩; refine ⟨_, rfl, ?_⟩))
                  go_roundg k1
                  case measure => omega
                  case rel => exact ⟨b, i + 1, _, rfl, rfl, ⟨hw.out, by have := hz17.out.2; omega⟩, hf1, ⟨by (with_reducible repeat (first | apply Kd.R_alloc | apply Kd.R_drewN | apply Kd.R_drew)); exact HO.out⟩, ⟨by repeat (first | (with_reducible first | exact HB.out | apply below_alloc | apply pw_below_drewN | apply below_drew1) | exact HB.out)⟩⟩
    · have hnx : ∀ ty, (Instr.next (.pointer (some ⟨w.heap.size, 0, none⟩)) true ty).run Tryd.prog wr = _ := fun ty => Lib.run_next_end_at wr w.heap.size a0 pos ty hit hp
      have HB := Aside0.mk hb
      have hpe : pos = a0.size := by omega
      have hhead : headL l = l.take a0.size := take_all l a0.size (by rw [← hpe]; exact hall) (fun d hd => by rw [List.getElem?_eq_none (by rw [hl.out, hsz]; exact Nat.le_refl _)] at hd; cases hd)
      have hex0 := extract_take a0 a0.size (Nat.le_refl _)
      rw [← hl.out, extract_all] at hex0
      have hex := Aside0.mk hex0
      clear hex0
      have hex0 := eq_true (show (0 : Int) ≤ (a0.size : Int) by omega)
      have hex1 := eq_true (show (a0.size : Int) ≤ (a0.size : Int) by omega)
      by_cases h0 : 0 < a0.size
      · have hne : headL l ≠ [] := by rw [hhead]; intro e; have := congrArg List.length e; rw [List.length_take, List.length_nil] at this; omega
        have hE := sort_ev (bytesB (l.take a0.size))
        obtain ⟨ks, hks⟩ := Ev.rounds hE
        rw [show (bytesB (l.take a0.size)).data.toList = l.take a0.size from rfl, ← hex.out] at hks
        obtain ⟨⟨q1, q2⟩, hq0⟩ : ∃ q, q = sortL (l.take a0.size) := ⟨_, rfl⟩
        rw [← hq0] at hks
        have hq := Aside0.mk hq0
        clear hq0
        cases q2 with
        | true =>
          have hfirst : Aside0 (firstL l = l.take a0.size) := ⟨by unfold firstL; rw [if_neg hne, hhead, ← hq.out, if_pos rfl]⟩
          go_wp2_with (first | fail | ((with_reducible refine gate_callee (f := 15) rfl ?_); refine goesL_ (some 30) rfl rfl Tryd.func15 (by kernel_rfl) rfl #[.string a0] rfl (by (try simp only [List.map_toArray, List.map_cons, List.map_nil]); first | done | rfl | (simp only [List.length_drop, List.length_take]; rfl)) ?_; (with_reducible refine (lexis_Sort.calls ks a0 q1 true _ hks ⟨Laid.later HT.out (by repeat (first | (with_reducible first | exact HB.out | apply below_alloc | apply pw_below_drewN | apply below_drew1) | exact HB.out))⟩).mono ?_); rintro e w4 ⟨rfl, hb4⟩; refine ⟨_, rfl, ?_⟩; have n1_ := Aside0.mk (below_step (by repeat (first | (with_reducible first | exact HB.out | apply below_alloc | apply pw_below_drewN | apply below_drew1) | exact HB.out)) hb4); clear HB; have HB := n1_; clear n1_))
          rw [Exit.noGoto_ret]
          go_ret
          exact ⟨by rw [← hl.out, hfirst.out, ← hex.out]; rfl, by repeat (first | (with_reducible first | exact HB.out | apply below_alloc | apply pw_below_drewN | apply below_drew1) | exact HB.out)⟩
        | false =>
          have hfirst : Aside0 (firstL l = []) := ⟨by unfold firstL; rw [if_neg hne, hhead, ← hq.out, if_neg Bool.false_ne_true]⟩
          go_wp2_with (first | fail | ((with_reducible refine gate_callee (f := 15) rfl ?_); refine goesL_ (some 30) rfl rfl Tryd.func15 (by kernel_rfl) rfl #[.string a0] rfl (by (try simp only [List.map_toArray, List.map_cons, List.map_nil]); first | done | rfl | (simp only [List.length_drop, List.length_take]; rfl)) ?_; (with_reducible refine (lexis_Sort.calls ks a0 q1 false _ hks ⟨Laid.later HT.out (by repeat (first | (with_reducible first | exact HB.out | apply below_alloc | apply pw_below_drewN | apply below_drew1) | exact HB.out))⟩).mono ?_); rintro e w4 ⟨rfl, hb4⟩; refine ⟨_, rfl, ?_⟩; have n1_ := Aside0.mk (below_step (by repeat (first | (with_reducible first | exact HB.out | apply below_alloc | apply pw_below_drewN | apply below_drew1) | exact HB.out)) hb4); clear HB; have HB := n1_; clear n1_))
          rw [Exit.noGoto_ret]
          go_ret
          exact ⟨by rw [← hl.out, hfirst.out]; rfl, by repeat (first | (with_reducible first | exact HB.out | apply below_alloc | apply pw_below_drewN | apply below_drew1) | exact HB.out)⟩
      · have hz : Aside0 (a0.size = 0) := ⟨by omega⟩
        have hfirst : Aside0 (firstL l = signL l) := ⟨by unfold firstL; rw [if_pos (by rw [hhead, hz.out]; rfl)]⟩
        have he0 : Aside0 (a0 = bytesB []) := ⟨by rw [hex.out, hz.out]; rfl⟩
        go_wp2_with (first | fail)
        go_wp2
        go_step3
        go_wp2_with (first | ((with_reducible refine gate_callee (f := 61) rfl ?_); refine goesL_ (some 36) rfl rfl Tryd.func61 (by kernel_rfl) rfl #[.string (⟨#[40, 32, 41, 32, 91, 32, 93, 32, 123, 32, 125, 32, 60, 32, 62, 32, 33, 32, 63, 32, 38, 32, 124, 32, 43, 32, 59, 32, 42, 32, 45, 62, 32, 60, 45, 62]⟩ : ByteArray)] rfl (by (try simp only [List.map_toArray, List.map_cons, List.map_nil]); first | done | rfl | (simp only [List.length_drop, List.length_take]; rfl)) ?_; (with_reducible refine (strings_Fields.calls (⟨#[40, 32, 41, 32, 91, 32, 93, 32, 123, 32, 125, 32, 60, 32, 62, 32, 33, 32, 63, 32, 38, 32, 124, 32, 43, 32, 59, 32, 42, 32, 45, 62, 32, 60, 45, 62]⟩ : ByteArray) ts _ hfs ⟨Laid.later HT.out (by repeat (first | (with_reducible first | exact HB.out | apply below_alloc | apply pw_below_drewN | apply below_drew1) | exact HB.out))⟩).mono ?_); rintro e w4 ⟨v105, rfl, ho0, hb4⟩; refine ⟨_, rfl, ?_⟩; have n0_ := Aside0.mk (Kd.R_lower ho0 (below_size (by repeat (first | (with_reducible first | exact HB.out | apply below_alloc | apply pw_below_drewN | apply below_drew1) | exact HB.out)))); have n1_ := Aside0.mk (below_step (by repeat (first | (with_reducible first | exact HB.out | apply below_alloc | apply pw_below_drewN | apply below_drew1) | exact HB.out)) hb4); clear HB; have HO := n0_; have HB := n1_; clear n0_ n1_; obtain ⟨Ao, co, eo⟩ := Kd.R_slice HO.out; subst eo))
        go_loopg [6, 38] 17 (fun kq v6 v38 w' => ∃ (b : Bs) (i : Nat) (z : Int), v6 = .string (bytesB b) ∧ v38 = .int .i64 z ∧ Aside0 (z = (i : Int) ∧ i + kq = 17) ∧ Aside0 ((signs.drop i).foldl (longer l) b = signL l) ∧ Aside0 (Kd.R Kd.string 9 w' w.heap.size (fun _ => True) (.slice Ao ts.length co) ts) ∧ Aside0 (Below w.heap.size w w'))
        case atStart => exact ⟨[], 0, 0, by rw [he0.out], rfl, ⟨rfl, rfl⟩, ⟨rfl⟩, ⟨by (with_reducible repeat (first | apply Kd.R_alloc | apply Kd.R_drewN | apply Kd.R_drew)); exact HO.out⟩, ⟨by repeat (first | (with_reducible first | exact HB.out | apply below_alloc | apply pw_below_drewN | apply below_drew1) | exact HB.out)⟩⟩
        case round =>
          clear HO HB
          obtain ⟨b, i, z, rfl, rfl, hz17, hf00, HO, HB⟩ := hrel
          have hi17 : i ≤ 17 := by have := hz17.out.2; omega
          have hf0 := hf00.out
          clear hf00
          cases gk with
          | zero =>
            have cend : decide (z < (ts.length : Int)) = false := by rw [hts.out.1, hz17.out.1, show i = 17 by have := hz17.out.2; omega]; rfl
            have hbb : b = signL l := by rw [show i = 17 by have := hz17.out.2; omega] at hf0; exact hf0
            go_wp2
            rw [Exit.noGoto_ret]
            go_ret
            exact ⟨by rw [← hl.out, hfirst.out, ← hbb]; rfl, by repeat (first | (with_reducible first | exact HB.out | apply below_alloc | apply pw_below_drewN | apply below_drew1) | exact HB.out)⟩
          | succ k1 =>
            have hi : i < signs.length := by rw [signs_len]; have := hz17.out.2; omega
            obtain ⟨x, hx0⟩ : ∃ x, x = signs[i] := ⟨_, rfl⟩
            have hw : Aside0 (wrap64 (z + 1) = ((i + 1 : Nat) : Int)) := ⟨by have h7 := hz17.out.1; clear hsz0 hpl hlen hsz; unfold wrap64; omega⟩
            have hr : rdOf ByteArray.empty ts z = bytesB x := by rw [hx0, hz17.out.1]; exact hts.out.2 i hi
            rw [List.drop_eq_getElem_cons hi, List.foldl_cons, ← hx0, show i + 1 = i + 1 from rfl] at hf0
            clear hx0
            have p107 : 0 ≤ z := by rw [hz17.out.1]; omega
            have q107 : z < (ts.length : Int) := by rw [hts.out.1, hz17.out.1]; rw [signs_len] at hi; omega
            have cin : decide (z < (ts.length : Int)) = true := decide_eq_true q107
            obtain ⟨ad107, e107, hx107⟩ := Kd.at_string (Kd.R_reads' HO.out).2.2 z p107 q107
            cases e107
            rw [hr] at hx107
            replace p107 := eq_true p107
            replace q107 := eq_true q107
            by_cases c1 : ((bytesB x).size : Int) ≤ ((bytesB b).size : Int)
            · have c1b : decide (((bytesB x).size : Int) ≤ ((bytesB b).size : Int)) = true := decide_eq_true c1
              have hf1 : Aside0 ((signs.drop (i + 1)).foldl (longer l) b = signL l) := ⟨by rw [← hf0]; unfold longer; rw [if_pos (by rw [← size_bytesB, ← size_bytesB]; omega)]⟩
              go_wp2
              go_roundg k1
              case measure => omega
              case rel => exact ⟨b, i + 1, _, rfl, rfl, ⟨hw.out, by have := hz17.out.2; omega⟩, hf1, ⟨by (with_reducible repeat (first | apply Kd.R_alloc | apply Kd.R_drewN | apply Kd.R_drew)); exact HO.out⟩, ⟨by repeat (first | (with_reducible first | exact HB.out | apply below_alloc | apply pw_below_drewN | apply below_drew1) | exact HB.out)⟩⟩
            · have c1b : decide (((bytesB x).size : Int) ≤ ((bytesB b).size : Int)) = false := decide_eq_false c1
              cases c2 : x.isPrefixOf l with
              | true =>
                have hpf := prefix_f a0 x
                rw [← hl.out, c2] at hpf
                have hf1 : Aside0 ((signs.drop (i + 1)).foldl (longer l) x = signL l) := ⟨by rw [← hf0]; unfold longer; rw [if_neg (by rw [← size_bytesB, ← size_bytesB]; omega), if_pos c2]⟩
                go_wp2_with (first | ((with_reducible refine gate_callee (f := 62) rfl ?_); refine goesL_ (some 49) rfl rfl Tryd.func62 (by kernel_rfl) rfl #[.string a0, .string (bytesB x)] rfl (by (try simp only [List.map_toArray, List.map_cons, List.map_nil]); first | done | rfl | (simp only [List.length_drop, List.length_take]; rfl)) ?_; (with_reducible refine (strings_HasPrefix.calls a0 (bytesB x) true _ hpf).mono ?_); rintro e w' ⟨rfl, ⟨nd, rfl⟩⟩; refine ⟨_, rfl, ?_⟩))
                go_roundg k1
                case measure => omega
                case rel => exact ⟨x, i + 1, _, rfl, rfl, ⟨hw.out, by have := hz17.out.2; omega⟩, hf1, ⟨by (with_reducible repeat (first | apply Kd.R_alloc | apply Kd.R_drewN | apply Kd.R_drew)); exact HO.out⟩, ⟨by repeat (first | (with_reducible first | exact HB.out | apply below_alloc | apply pw_below_drewN | apply below_drew1) | exact HB.out)⟩⟩
              | false =>
                have hpf := prefix_f a0 x
                rw [← hl.out, c2] at hpf
                have hf1 : Aside0 ((signs.drop (i + 1)).foldl (longer l) b = signL l) := ⟨by rw [← hf0]; unfold longer; rw [if_neg (by rw [← size_bytesB, ← size_bytesB]; omega), if_neg (by rw [c2]; exact Bool.false_ne_true)]⟩
                go_wp2_with (first | ((with_reducible refine gate_callee (f := 62) rfl ?_); refine goesL_ (some 49) rfl rfl Tryd.func62 (by kernel_rfl) rfl #[.string a0, .string (bytesB x)] rfl (by (try simp only [List.map_toArray, List.map_cons, List.map_nil]); first | done | rfl | (simp only [List.length_drop, List.length_take]; rfl)) ?_; (with_reducible refine (strings_HasPrefix.calls a0 (bytesB x) false _ hpf).mono ?_); rintro e w' ⟨rfl, ⟨nd, rfl⟩⟩; refine ⟨_, rfl, ?_⟩))
                go_roundg k1
                case measure => omega
                case rel => exact ⟨b, i + 1, _, rfl, rfl, ⟨hw.out, by have := hz17.out.2; omega⟩, hf1, ⟨by (with_reducible repeat (first | apply Kd.R_alloc | apply Kd.R_drewN | apply Kd.R_drew)); exact HO.out⟩, ⟨by repeat (first | (with_reducible first | exact HB.out | apply below_alloc | apply pw_below_drewN | apply below_drew1) | exact HB.out)⟩⟩
end Go.Proofs.YtaogoabnidbbpaaDoor.PText
/-! PTextx5b -/
namespace Go.Proofs.YtaogoabnidbbpaaDoor.PText
open Go.RowKit Go.Proofs.YtaogoabnidbbpaaDoorW.PrintWords Go.Proofs.YtaogoabnidbbpaaDoorW.PrintLast Go.Proofs.YtaogoabnidbbpaaDoorW.PrintMore
attribute [local go_sem] max2_int min2_int max_two min_two max_three min_three max_four min_four   -- for this text's walks alone
set_option linter.unusedVariables false
set_option linter.unusedSimpArgs false
attribute [local go_sem high] eqA26 eqA31
def lexis_Words.l0 : Nat → ByteArray → List (S31) → Int → Option ((List (S31)) × Int × Int)
  | 0, _, _, _ => none
  | k + 1, x0, x4, x5 => if x5 < (x0.size : Int) then (if 0 ≤ x5 then (if (bt x0 x5) = 32 then (lexis_Words.l0 k x0 x4 (wrap64 (x5 + 1))) else (if x5 ≤ (x0.size : Int) then ((lexis_first.f (x0.extract (x5 : Int).toNat x0.size)).bind fun t113 => (if t113.toList = ([] : List UInt8) then (some (([] : List (S31)), 140, x5)) else ((lexis_Sort.f k t113).bind fun bt114 => (if x4.length < 4398046511104 then (lexis_Words.l0 k x0 (x4 ++ [(⟨bt114.1, t113, x5⟩ : S31)]) (wrap64 (x5 + (t113.size : Int)))) else (none))))) else (none))) else (none)) else (some (x4, 0, 0))
def lexis_Words.f (k : Nat) (a0 : ByteArray) : Option ((List (S31)) × Int × Int) := if (a0.size : Int) > 4096 then (some (([] : List (S31)), 3, (-1))) else (lexis_Words.l0 k a0 ([] : List (S31)) 0)
theorem lexis_Words.mono_l : ∀ k, (∀ y0 y1 y2, LeO (lexis_Words.l0 k y0 y1 y2) (lexis_Words.l0 (k + 1) y0 y1 y2))
  | 0 => fun _ _ _ r h => by simp [lexis_Words.l0] at h
  | k + 1 => by
    have ih0 := lexis_Words.mono_l k
    · intro y0 y1 y2
      unfold lexis_Words.l0
      repeat' first
      | (with_reducible exact ih0 _ _ _)
      | (with_reducible exact lexis_Sort.mono _ _)
      | (with_reducible exact LeO.refl _)
      | (with_reducible exact LeO.none _)
      | (with_reducible refine LeO.ite ?_ ?_)
      | (with_reducible refine LeO.bind ?_ (fun _ => ?_))
      | exact ih0 _ _ _
      | exact lexis_Sort.mono _ _
      | exact LeO.none _
      | refine LeO.ite ?_ ?_
      | refine LeO.bind ?_ (fun _ => ?_)
theorem lexis_Words.mono : ∀ a0 k, LeO (lexis_Words.f k a0) (lexis_Words.f (k + 1) a0) := by
  intro a0 k
  have ih0 := lexis_Words.mono_l k
  unfold lexis_Words.f
  repeat' first
      | (with_reducible exact ih0 _ _ _)
      | (with_reducible exact lexis_Sort.mono _ _)
      | (with_reducible exact LeO.refl _)
      | (with_reducible exact LeO.none _)
      | (with_reducible refine LeO.ite ?_ ?_)
      | (with_reducible refine LeO.bind ?_ (fun _ => ?_))
      | exact ih0 _ _ _
      | exact lexis_Sort.mono _ _
      | exact LeO.none _
      | refine LeO.ite ?_ ?_
      | refine LeO.bind ?_ (fun _ => ?_)
set_option maxHeartbeats 8000000 in
set_option maxRecDepth 100000 in
theorem lexis_Words.calls (k : Nat) (a0 : ByteArray) (r1 : List (S31)) (r2 : Int) (r3 : Int) (w : World) (h : lexis_Words.f k a0 = some (r1, r2, r3)) (HT : Aside0 (Laid w) := by exact ⟨Laid.later HT.out (by repeat (first | (with_reducible first | exact HB.out | apply below_alloc | apply pw_below_drewN | apply below_drew1) | exact HB.out))⟩) :
    Calls Tryd.prog 14 #[.string a0] w fun e w' => ∃ v0_ : Value, e = .returned (.tuple #[v0_, .agg #[.int .i64 r2, .int .i64 r3]]) ∧ Kd.R k31 31 w' w.heap.size (fun _ => True) v0_ r1 ∧ Below w.heap.size w w' := by
  have hu26 := Tryd.underlying26
  have hu31 := Tryd.underlying31
  have HB := Aside0.mk (Below.refl w.heap.size w)
  have H : (if (a0.size : Int) > 4096 then (some (([] : List (S31)), 3, (-1))) else (lexis_Words.l0 k a0 ([] : List (S31)) 0)) = some (r1, r2, r3) := h
  clear h
  by_cases c2 : (a0.size : Int) > 4096
  · rw [if_pos c2] at H
    have c2b0 : decide (4096 < (a0.size : Int)) = true := decide_eq_true c2
    have c2b1 : decide (4096 < a0.size) = true := decide_eq_true (by omega)
    clear c2
    simp only [Option.some.injEq, Prod.mk.injEq] at H
    obtain ⟨rfl, rfl, rfl⟩ := H
    go_enter Tryd.func14, Tryd.ntmps14
    go_wp2_with (first | ((with_reducible refine gate_dst (N := 3) rfl ?_); refine box_event ?hg (N := 3) ?hd (cs := #[.int .i64 0, .int .i64 0]) (t := 26) ?hr ?_; (case hd => rfl); (case hg => rfl); (case hr => first | (go_simp; done) | (go_simp; rfl)); intro gb112 hg w3 hbox hb; have n0_ := Aside0.mk (below_step (by repeat (first | (with_reducible first | exact HB.out | apply below_alloc | apply pw_below_drewN | apply below_drew1) | exact HB.out)) hb); have n1_ := Aside0.mk (hbox); have n2_ := Aside0.mk ((by rw [hg]; exact (below_size (by repeat (first | (with_reducible first | exact HB.out | apply below_alloc | apply pw_below_drewN | apply below_drew1) | exact HB.out))) : w.heap.size ≤ gb112)); have n3_ := Aside0.mk ((by rw [hg]; exact (below_size (by repeat (first | (with_reducible first | exact HB.out | apply below_alloc | apply pw_below_drewN | apply below_drew1) | exact HB.out))) : w.heap.size ≤ gb112)); clear HB; have HB := n0_; have BK112 := n1_; have GW112 := n2_; have GE112 := n3_; clear n0_ n1_ n2_ n3_; clear hb hbox hg; have hcz4_0 : w3.cell? ⟨gb112, 0, none⟩ = some (.int .i64 0) := (blk_cell BK112.out 0).trans rfl; have hcz4_1 : w3.cell? ⟨gb112, 1, none⟩ = some (.int .i64 0) := (blk_cell BK112.out 1).trans rfl; have hfz4_0 := blk_frozen BK112.out 0; have hfz4_1 := blk_frozen BK112.out 1))
    refine bodyPost_ret (results_tc rfl _ _ gb112 26 #[.int .i64 3, .int .i64 (-1)] (0, 0) _ rfl (by (with_reducible repeat (first | refine blk_drewN ?_ _ | refine blk_drew ?_ | refine blk_alloc ?_ _)); refine blk_put (cs := #[.int .i64 3, .int .i64 0]) ?_ 1 _ rfl; (with_reducible repeat (first | refine blk_drewN ?_ _ | refine blk_drew ?_ | refine blk_alloc ?_ _)); refine blk_put (cs := #[.int .i64 0, .int .i64 0]) ?_ 0 _ rfl; (with_reducible repeat (first | refine blk_drewN ?_ _ | refine blk_drew ?_ | refine blk_alloc ?_ _)); exact BK112.out) Tryd.underlying26 rfl (by kernel_rfl)) rfl ?_
    exact ⟨_, by first | rfl | (simp [errW_none, errW_some] <;> rfl) | (simp [*, errW_none, errW_some] <;> rfl), by first | exact Kd.R_nil _ _ _ _ _ | exact Kd.N_nil _ _ _ _ _ | exact Kd.V_nil _ _ _ _ _ | exact Kd.Q_nil _ _ _ _ _ | exact Kd.S_nil _ _ _ _ _, by repeat (first | (with_reducible first | exact HB.out | apply below_alloc | apply pw_below_drewN | apply below_drew1 | refine below_set ?_ GE112.out) | exact HB.out)⟩
  · rw [if_neg c2] at H
    have c2b0 : decide (4096 < (a0.size : Int)) = false := decide_eq_false c2
    have c2b1 : decide (4096 < a0.size) = false := decide_eq_false (by omega)
    clear c2
    have H' := Aside0.mk H
    clear H
    go_enter Tryd.func14, Tryd.ntmps14
    go_wp2_with (first | ((with_reducible refine gate_dst (N := 3) rfl ?_); refine box_event ?hg (N := 3) ?hd (cs := #[.int .i64 0, .int .i64 0]) (t := 26) ?hr ?_; (case hd => rfl); (case hg => rfl); (case hr => first | (go_simp; done) | (go_simp; rfl)); intro gb112 hg w5 hbox hb; have n0_ := Aside0.mk (below_step (by repeat (first | (with_reducible first | exact HB.out | apply below_alloc | apply pw_below_drewN | apply below_drew1) | exact HB.out)) hb); have n1_ := Aside0.mk (hbox); have n2_ := Aside0.mk ((by rw [hg]; exact (below_size (by repeat (first | (with_reducible first | exact HB.out | apply below_alloc | apply pw_below_drewN | apply below_drew1) | exact HB.out))) : w.heap.size ≤ gb112)); have n3_ := Aside0.mk ((by rw [hg]; exact (below_size (by repeat (first | (with_reducible first | exact HB.out | apply below_alloc | apply pw_below_drewN | apply below_drew1) | exact HB.out))) : w.heap.size ≤ gb112)); clear HB; have HB := n0_; have BK112 := n1_; have GW112 := n2_; have GE112 := n3_; clear n0_ n1_ n2_ n3_; clear hb hbox hg))
    go_loopg [4, 5] k (fun kq v4 v5 w' => ∃ (x4_1 : List (S31)) (x5_1 : Int) (x113000_1 : Int) (x113001_1 : Int), v5 = .int .i64 x5_1 ∧ Aside0 (lexis_Words.l0 kq a0 x4_1 x5_1 = some (r1, r2, r3)) ∧ Aside0 (kq ≤ k) ∧ Aside0 (Kd.R k31 31 w' w.heap.size (fun _ => True) v4 x4_1) ∧ Aside0 (w'.heap[gb112]? = some (.cells #[.int .i64 x113000_1, .int .i64 x113001_1] 26 (0, 0))) ∧ Aside0 (Below w.heap.size w w'))
    case atStart => exact ⟨(([] : List (S31))), (0), (0), (0), (by first | rfl | (simp; done) | (simp [*]; done)), H', ⟨Nat.le_refl _⟩, ⟨by first | exact Kd.R_nil _ _ _ _ _ | exact Kd.N_nil _ _ _ _ _ | exact Kd.V_nil _ _ _ _ _ | exact Kd.Q_nil _ _ _ _ _ | exact Kd.S_nil _ _ _ _ _⟩, ⟨by (with_reducible repeat (first | refine blk_drewN ?_ _ | refine blk_drew ?_ | refine blk_alloc ?_ _)); exact BK112.out⟩, ⟨by repeat (first | (with_reducible first | exact HB.out | apply below_alloc | apply pw_below_drewN | apply below_drew1 | refine below_set ?_ GE112.out) | exact HB.out)⟩⟩
    case round =>
      clear H'
      try clear c1
      try clear c2
      try clear c2b0
      try clear c2b1
      try clear p2
      try clear hcz4_0
      try clear hcz4_1
      try clear hfz4_0
      try clear hfz4_1
      obtain ⟨x4_1, x5_1, x113000_1, x113001_1, rfl, HA, HK1, HO_4, BK112, HB⟩ := hrel
      cases gk with
      | zero => exact absurd HA.out (by simp [lexis_Words.l0])
      | succ k1 =>
        have H := HA.out
        clear HA
        simp only [lexis_Words.l0] at H
        by_cases c6 : x5_1 < (a0.size : Int)
        · rw [if_pos c6] at H
          have c6b0 : decide (x5_1 < (a0.size : Int)) = true := decide_eq_true c6
          clear c6
          by_cases c7 : 0 ≤ x5_1
          · rw [if_pos c7] at H
            have c7b0 : decide (0 ≤ x5_1) = true := decide_eq_true c7
            clear c7
            by_cases c9 : (bt a0 x5_1) = 32
            · rw [if_pos c9] at H
              have c9b0 : ((bt a0 x5_1) == 32) = true := beq_iff_eq.mpr c9
              have c9b1 : ((bt a0 x5_1) != 32) = false := bne_eq_false_iff_eq.mpr c9
              clear c9
              have H' := Aside0.mk H
              clear H
              have p8 : 0 ≤ (x5_1 : Int) := of_decide_eq_true (by first | (with_reducible assumption) | assumption)
              have q8 : x5_1 < (a0.size : Int) := of_decide_eq_true (by first | (with_reducible assumption) | assumption)
              have hx8 := bt_at a0 x5_1
              replace p8 := eq_true p8
              replace q8 := eq_true q8
              go_wp2
              go_roundg k1
              case measure => have := HK1.out; omega
              case rel => exact ⟨(x4_1), (wrap64 (x5_1 + 1)), (x113000_1), (x113001_1), (by first | rfl | (simp; done) | (simp [*]; done)), H', ⟨by have := HK1.out; omega⟩, ⟨by (with_reducible repeat (first | apply Kd.R_alloc | apply Kd.R_drewN | apply Kd.R_drew)); exact HO_4.out⟩, ⟨by (with_reducible repeat (first | refine blk_drewN ?_ _ | refine blk_drew ?_ | refine blk_alloc ?_ _)); exact BK112.out⟩, ⟨by repeat (first | (with_reducible first | exact HB.out | apply below_alloc | apply pw_below_drewN | apply below_drew1 | refine below_set ?_ GE112.out) | exact HB.out)⟩⟩
            · rw [if_neg c9] at H
              have c9b0 : ((bt a0 x5_1) == 32) = false := beq_eq_false_iff_ne.mpr c9
              have c9b1 : ((bt a0 x5_1) != 32) = true := bne_iff_ne.mpr c9
              have c10b0 := eq_true (of_decide_eq_true (by first | (with_reducible assumption) | assumption) : 0 ≤ x5_1)
              by_cases c11 : x5_1 ≤ (a0.size : Int)
              · rw [if_pos c11] at H
                have c11b0 := eq_true c11
                have c11b1 : decide (x5_1 ≤ (a0.size : Int)) = true := decide_eq_true c11
                clear c11
                replace H := Option.bind_eq_some_iff.mp H
                obtain ⟨t113, A120, H⟩ := H
                replace H : (if t113.toList = ([] : List UInt8) then (some (([] : List (S31)), 140, x5_1)) else ((lexis_Sort.f k1 t113).bind fun bt114 => (if x4_1.length < 4398046511104 then (lexis_Words.l0 k1 a0 (x4_1 ++ [(⟨bt114.1, t113, x5_1⟩ : S31)]) (wrap64 (x5_1 + (t113.size : Int)))) else (none)))) = some (r1, r2, r3) := H
                have A12 := Aside0.mk A120
                clear A120
                by_cases c13 : t113.toList = ([] : List UInt8)
                · rw [if_pos c13] at H
                  have c13b0 : (t113.toList == ([] : List UInt8)) = true := beq_iff_eq.mpr c13
                  have c13b1 : (t113.toList != ([] : List UInt8)) = false := bne_eq_false_iff_eq.mpr c13
                  clear c13
                  simp only [Option.some.injEq, Prod.mk.injEq] at H
                  obtain ⟨rfl, rfl, rfl⟩ := H
                  have p8 : 0 ≤ (x5_1 : Int) := of_decide_eq_true (by first | (with_reducible assumption) | assumption)
                  have q8 : x5_1 < (a0.size : Int) := of_decide_eq_true (by first | (with_reducible assumption) | assumption)
                  have hx8 := bt_at a0 x5_1
                  replace p8 := eq_true p8
                  replace q8 := eq_true q8
                  go_wp2_with (first | ((with_reducible refine gate_callee (f := 40) rfl ?_); refine goesL_ (some 26) rfl rfl Tryd.func40 (by kernel_rfl) rfl #[.string (a0.extract (x5_1 : Int).toNat a0.size)] rfl (by (try simp only [List.map_toArray, List.map_cons, List.map_nil]); first | done | rfl | (simp only [List.length_drop, List.length_take]; rfl)) ?_; (with_reducible refine (lexis_first.calls (a0.extract (x5_1 : Int).toNat a0.size) t113 _ A12.out).mono ?_); rintro e w14 ⟨rfl, hb⟩; refine ⟨_, rfl, ?_⟩; have n0_ := Aside0.mk (Kd.R_below (by (with_reducible repeat (first | apply Kd.R_alloc | apply Kd.R_drewN | apply Kd.R_drew)); exact HO_4.out) hb); have n1_ := Aside0.mk (blk_below (g := gb112) (o := .cells #[.int .i64 x113000_1, .int .i64 x113001_1] 26 (0, 0)) (by (with_reducible repeat (first | refine blk_drewN ?_ _ | refine blk_drew ?_ | refine blk_alloc ?_ _)); exact BK112.out) hb); have n2_ := Aside0.mk (below_step (by repeat (first | (with_reducible first | exact HB.out | apply below_alloc | apply pw_below_drewN | apply below_drew1 | refine below_set ?_ GE112.out) | exact HB.out)) hb); clear HO_4; clear BK112; clear HB; have HO_4 := n0_; have BK112 := n1_; have HB := n2_; clear n0_ n1_ n2_; (try clear hb); (try clear hb2); (try clear hk); (try clear hi); have hcz15_0 : w14.cell? ⟨gb112, 0, none⟩ = some (.int .i64 x113000_1) := (blk_cell BK112.out 0).trans rfl; have hcz15_1 : w14.cell? ⟨gb112, 1, none⟩ = some (.int .i64 x113001_1) := (blk_cell BK112.out 1).trans rfl; have hfz15_0 := blk_frozen BK112.out 0; have hfz15_1 := blk_frozen BK112.out 1))
                  refine bodyPost_ret (results_tc rfl _ _ gb112 26 #[.int .i64 140, .int .i64 x5_1] (0, 0) _ rfl (by (with_reducible repeat (first | refine blk_drewN ?_ _ | refine blk_drew ?_ | refine blk_alloc ?_ _)); refine blk_put (cs := #[.int .i64 140, .int .i64 x113001_1]) ?_ 1 _ rfl; (with_reducible repeat (first | refine blk_drewN ?_ _ | refine blk_drew ?_ | refine blk_alloc ?_ _)); refine blk_put (cs := #[.int .i64 x113000_1, .int .i64 x113001_1]) ?_ 0 _ rfl; (with_reducible repeat (first | refine blk_drewN ?_ _ | refine blk_drew ?_ | refine blk_alloc ?_ _)); exact BK112.out) Tryd.underlying26 rfl (by kernel_rfl)) rfl ?_
                  exact ⟨_, by first | rfl | (simp [errW_none, errW_some] <;> rfl) | (simp [*, errW_none, errW_some] <;> rfl), by first | exact Kd.R_nil _ _ _ _ _ | exact Kd.N_nil _ _ _ _ _ | exact Kd.V_nil _ _ _ _ _ | exact Kd.Q_nil _ _ _ _ _ | exact Kd.S_nil _ _ _ _ _, by repeat (first | (with_reducible first | exact HB.out | apply below_alloc | apply pw_below_drewN | apply below_drew1 | refine below_set ?_ GE112.out) | exact HB.out)⟩
                · rw [if_neg c13] at H
                  have c13b0 : (t113.toList == ([] : List UInt8)) = false := beq_eq_false_iff_ne.mpr c13
                  have c13b1 : (t113.toList != ([] : List UInt8)) = true := bne_iff_ne.mpr c13
                  replace H := Option.bind_eq_some_iff.mp H
                  obtain ⟨⟨t114, t115⟩, A160, H⟩ := H
                  replace H : (if x4_1.length < 4398046511104 then (lexis_Words.l0 k1 a0 (x4_1 ++ [(⟨t114, t113, x5_1⟩ : S31)]) (wrap64 (x5_1 + (t113.size : Int)))) else (none)) = some (r1, r2, r3) := H
                  have A16 := Aside0.mk A160
                  clear A160
                  by_cases c17 : x4_1.length < 4398046511104
                  · rw [if_pos c17] at H
                    have LMc17 := Aside0.mk c17
                    clear c17
                    obtain ⟨y116, hy116⟩ : ∃ y_ : List (S31), y_ = (x4_1 ++ [(⟨t114, t113, x5_1⟩ : S31)]) := ⟨_, rfl⟩
                    replace H : (lexis_Words.l0 k1 a0 y116 (wrap64 (x5_1 + (t113.size : Int)))) = some (r1, r2, r3) := by first | (rw [hy116]; with_reducible exact H) | (have H2_ := (Option.bind_some _ _).symm.trans H; rw [hy116]; with_reducible exact H2_) | (have H2_ := (Option.bind_some _ _).symm.trans H; with_reducible exact H2_) | with_reducible exact H | (rw [hy116]; exact H) | exact H
                    have Ny116 := Aside0.mk hy116
                    clear hy116
                    have H' := Aside0.mk H
                    clear H
                    have p8 : 0 ≤ (x5_1 : Int) := of_decide_eq_true (by first | (with_reducible assumption) | assumption)
                    have q8 : x5_1 < (a0.size : Int) := of_decide_eq_true (by first | (with_reducible assumption) | assumption)
                    have hx8 := bt_at a0 x5_1
                    replace p8 := eq_true p8
                    replace q8 := eq_true q8
                    go_wp2_with (first | ((with_reducible refine gate_callee (f := 40) rfl ?_); refine goesL_ (some 26) rfl rfl Tryd.func40 (by kernel_rfl) rfl #[.string (a0.extract (x5_1 : Int).toNat a0.size)] rfl (by (try simp only [List.map_toArray, List.map_cons, List.map_nil]); first | done | rfl | (simp only [List.length_drop, List.length_take]; rfl)) ?_; (with_reducible refine (lexis_first.calls (a0.extract (x5_1 : Int).toNat a0.size) t113 _ A12.out).mono ?_); rintro e w18 ⟨rfl, hb⟩; refine ⟨_, rfl, ?_⟩; have n0_ := Aside0.mk (Kd.R_below (by (with_reducible repeat (first | apply Kd.R_alloc | apply Kd.R_drewN | apply Kd.R_drew)); exact HO_4.out) hb); have n1_ := Aside0.mk (blk_below (g := gb112) (o := .cells #[.int .i64 x113000_1, .int .i64 x113001_1] 26 (0, 0)) (by (with_reducible repeat (first | refine blk_drewN ?_ _ | refine blk_drew ?_ | refine blk_alloc ?_ _)); exact BK112.out) hb); have n2_ := Aside0.mk (below_step (by repeat (first | (with_reducible first | exact HB.out | apply below_alloc | apply pw_below_drewN | apply below_drew1 | refine below_set ?_ GE112.out) | exact HB.out)) hb); clear HO_4; clear BK112; clear HB; have HO_4 := n0_; have BK112 := n1_; have HB := n2_; clear n0_ n1_ n2_; (try clear hb); (try clear hb2); (try clear hk); (try clear hi)) | ((with_reducible refine gate_callee (f := 15) rfl ?_); refine goesL_ (some 33) rfl rfl Tryd.func15 (by kernel_rfl) rfl #[.string t113] rfl (by (try simp only [List.map_toArray, List.map_cons, List.map_nil]); first | done | rfl | (simp only [List.length_drop, List.length_take]; rfl)) ?_; (with_reducible refine (lexis_Sort.calls k1 t113 t114 t115 _ A16.out).mono ?_); rintro e w19 ⟨rfl, hb⟩; refine ⟨_, rfl, ?_⟩; have n0_ := Aside0.mk (Kd.R_below (by (with_reducible repeat (first | apply Kd.R_alloc | apply Kd.R_drewN | apply Kd.R_drew)); exact HO_4.out) hb); have n1_ := Aside0.mk (blk_below (g := gb112) (o := .cells #[.int .i64 x113000_1, .int .i64 x113001_1] 26 (0, 0)) (by (with_reducible repeat (first | refine blk_drewN ?_ _ | refine blk_drew ?_ | refine blk_alloc ?_ _)); exact BK112.out) hb); have n2_ := Aside0.mk (below_step (by repeat (first | (with_reducible first | exact HB.out | apply below_alloc | apply pw_below_drewN | apply below_drew1 | refine below_set ?_ GE112.out) | exact HB.out)) hb); clear HO_4; clear BK112; clear HB; have HO_4 := n0_; have BK112 := n1_; have HB := n2_; clear n0_ n1_ n2_; (try clear hb); (try clear hb2); (try clear hk); (try clear hi)) | ((with_reducible refine gate_builtin (b := .append) (xs := #[.tmp 36, .tmp 41]) rfl ?_); at_builtin; refine Kd.R_append k31 (w0 := w) w.heap.size rfl (.tmp 36) (.tmp 41) 23 31 (.agg #[(.int .u8 0), (.string ⟨#[]⟩), (.int .i64 0)]) 32 rfl Tryd.underlying23 info31 rfl (by decide) (by omega) u4 x4_1 (⟨t114, t113, x5_1⟩ : S31) [.int .u8 t114, .string t113, .int .i64 x5_1] (fun _ => True) (fun _ => False) rfl rfl ?aP (fun _ hk => hk.elim) ?aF ?aO ?aB ?aS ?aL ?_; (case aP => exact k31_mkM _ _ _ (⟨t114, t113, x5_1⟩ : S31)); (case aB => exact (by repeat (first | (with_reducible first | exact HB.out | apply below_alloc | apply pw_below_drewN | apply below_drew1 | refine below_set ?_ GE112.out) | exact HB.out))); (case aF => exact (fun _ _ => trivial)); (case aO => exact (by (with_reducible repeat (first | apply Kd.R_alloc | apply Kd.R_drewN | apply Kd.R_drew)); exact HO_4.out)); (case aS => exact (below_size (by repeat (first | (with_reducible first | exact HB.out | apply below_alloc | apply pw_below_drewN | apply below_drew1 | refine below_set ?_ GE112.out) | exact HB.out)))); (case aL => have := LMc17.out; omega); intro v117 w20 ho hb hg hat; rw [← Ny116.out] at ho; have n0_ := Aside0.mk (blk_grown (g := gb112) (o := .cells #[.int .i64 x113000_1, .int .i64 x113001_1] 26 (0, 0)) (by (with_reducible repeat (first | refine blk_drewN ?_ _ | refine blk_drew ?_ | refine blk_alloc ?_ _)); exact BK112.out) hg (Kd.R_ne HO_4.out BK112.out (by decide))); have n1_ := Aside0.mk (hb); have n2_ := Aside0.mk (ho); clear BK112; clear HB; clear HO_4; have BK112 := n0_; have HB := n1_; have HO118 := n2_; clear n0_ n1_ n2_; clear ho hb hg hat))
                    go_roundg k1
                    case measure => have := HK1.out; omega
                    case rel => exact ⟨(y116), (wrap64 (x5_1 + (t113.size : Int))), (x113000_1), (x113001_1), (by first | rfl | (simp; done) | (simp [*]; done)), H', ⟨by have := HK1.out; omega⟩, ⟨by (with_reducible repeat (first | apply Kd.R_alloc | apply Kd.R_drewN | apply Kd.R_drew)); exact HO118.out⟩, ⟨by (with_reducible repeat (first | refine blk_drewN ?_ _ | refine blk_drew ?_ | refine blk_alloc ?_ _)); exact BK112.out⟩, ⟨by repeat (first | (with_reducible first | exact HB.out | apply below_alloc | apply pw_below_drewN | apply below_drew1 | refine below_set ?_ GE112.out) | exact HB.out)⟩⟩
                  · rw [if_neg c17] at H
                    exact absurd H (by simp)
              · rw [if_neg c11] at H
                exact absurd H (by simp)
          · rw [if_neg c7] at H
            exact absurd H (by simp)
        · rw [if_neg c6] at H
          have c6b0 : decide (x5_1 < (a0.size : Int)) = false := decide_eq_false c6
          clear c6
          simp only [Option.some.injEq, Prod.mk.injEq] at H
          obtain ⟨rfl, rfl, rfl⟩ := H
          have hcz21_0 : wr.cell? ⟨gb112, 0, none⟩ = some (.int .i64 x113000_1) := (blk_cell BK112.out 0).trans rfl
          have hcz21_1 : wr.cell? ⟨gb112, 1, none⟩ = some (.int .i64 x113001_1) := (blk_cell BK112.out 1).trans rfl
          have hfz21_0 := blk_frozen BK112.out 0
          have hfz21_1 := blk_frozen BK112.out 1
          go_wp2
          refine bodyPost_ret (results_tc rfl _ _ gb112 26 #[.int .i64 0, .int .i64 0] (0, 0) _ rfl (by (with_reducible repeat (first | refine blk_drewN ?_ _ | refine blk_drew ?_ | refine blk_alloc ?_ _)); refine blk_put (cs := #[.int .i64 0, .int .i64 x113001_1]) ?_ 1 _ rfl; (with_reducible repeat (first | refine blk_drewN ?_ _ | refine blk_drew ?_ | refine blk_alloc ?_ _)); refine blk_put (cs := #[.int .i64 x113000_1, .int .i64 x113001_1]) ?_ 0 _ rfl; (with_reducible repeat (first | refine blk_drewN ?_ _ | refine blk_drew ?_ | refine blk_alloc ?_ _)); exact BK112.out) Tryd.underlying26 rfl (by kernel_rfl)) rfl ?_
          exact ⟨_, by first | rfl | (simp [errW_none, errW_some] <;> rfl) | (simp [*, errW_none, errW_some] <;> rfl), by (with_reducible repeat (first | apply Kd.R_alloc | apply Kd.R_drewN | apply Kd.R_drew)); exact Kd.R_mono (Kd.R_far (p := ⟨gb112, 1, none⟩) (Kd.R_far (p := ⟨gb112, 0, none⟩) (Kd.R_types HO_4.out BK112.out (by decide)) (fun _ hk => hk.2) (.int .i64 0)) (fun _ hk => hk.2) (.int .i64 0)) (fun _ hk => trivial), by repeat (first | (with_reducible first | exact HB.out | apply below_alloc | apply pw_below_drewN | apply below_drew1 | refine below_set ?_ GE112.out) | exact HB.out)⟩
end Go.Proofs.YtaogoabnidbbpaaDoor.PText
