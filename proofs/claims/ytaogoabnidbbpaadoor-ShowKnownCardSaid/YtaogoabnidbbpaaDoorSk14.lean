/- Texts of this work merged into one file, what the law does not need left out: TextBuild; TextJoin; TextLexer; TextParser. Conditions stand in each law. -/
import Derived.Below
import Derived.Deep.Draws
import Derived.Deep.AppendLies
import Derived.Maps.AppendAt
import Derived.OwnWalk
import Derived.Laws.BytesArg
import Derived.Laws.MakeOwn
import Derived.Laws.OwnMore
import Derived.Deep.OwnRows
import Derived.Tactics
import Derived.Lib.ConvBytes
import Derived.Laws.Slices
import Derived.WalkKit
import Derived.KernelRfl
import Derived.RowKit3
import Derived.Deep.LoopGhost
import Derived.Deep.QuietTactic
import Derived.BigQuiet
import Derived.WideLaws
import Derived.Deep.DeepCutAuto
import Derived.Deep.CutBlock
import Derived.Deep.RegionHeld3
import Derived.Laws.Rows
import Derived.Lib.AppendStr
import Derived.ArgAppend
import Derived.Laws.IdiomCopy
import Derived.RowKit
import Derived.OrdersHeld
import Derived.Laws.BitsLemmas
import Derived.Laws.StructEq
import Derived.Test.YtaogoabnidbbpaaDoorProg
import Derived.Shelf.Strings.Builder1
import Derived.Shelf.Strings.BuilderF
import Derived.Shelf.Strings.BuilderK
import Derived.Shelf.Strings.Fields
import Derived.Lib.SmallJoins
import Derived.BigCall
import Derived.WalkMore
import Derived.Lib.OthersKept
import Derived.Lib.FrozenHead
import Derived.Test.YtaogoabnidbbpaaDoorSk1
import Derived.Test.YtaogoabnidbbpaaDoorSk2
import Derived.Test.YtaogoabnidbbpaaDoorSk3
import Derived.Test.YtaogoabnidbbpaaDoorSk4
import Derived.Test.YtaogoabnidbbpaaDoorSk5
import Derived.Test.YtaogoabnidbbpaaDoorSk6
import Derived.Test.YtaogoabnidbbpaaDoorSk7
import Derived.Test.YtaogoabnidbbpaaDoorSk10
import Derived.Test.YtaogoabnidbbpaaDoorSk11
import Derived.Test.YtaogoabnidbbpaaDoorSk12
import Derived.Test.YtaogoabnidbbpaaDoorSk13
/-! TextBuild -/
namespace Go.Proofs.YtaogoabnidbbpaaDoor.PText
open Go.RowKit Go.Proofs.YtaogoabnidbbpaaDoorW.PrintWords Go.Proofs.YtaogoabnidbbpaaDoorW.PrintLast Go.Proofs.YtaogoabnidbbpaaDoorW.PrintMore
set_option linter.unusedVariables false
theorem bSize : (Tryd.prog.info? 75).map (·.size) = some 2 := by kernel_rfl
theorem bLies : liesAt Tryd.prog Tryd.prog.depth 75 (2 / Tryd.prog.cellsOf 75) 0 75 1 = true := by kernel_rfl
theorem bByte : (Tryd.prog.info? 5).map (fun i => (i.zero, i.size, i.bytes)) = some (some (.int .u8 0), 1, 1) := by kernel_rfl
set_option maxHeartbeats 1000000 in
set_option maxRecDepth 100000 in
theorem copy_used (b : Nat) (w : World) (h0 : w.cell? ⟨b, 0, none⟩ = some (.pointer (some ⟨b, 0, none⟩))) :
    Calls Tryd.prog 63 #[.pointer (some ⟨b, 0, none⟩)] w fun e w' => e = .returned (.tuple #[]) ∧ w' = w := by
  obtain ⟨j, hj, _⟩ := Option.map_eq_some_iff.1 bSize
  go_enter Tryd.func63, Tryd.ntmps63
  go_wp2
  rw [Lib.run_neq_ptr_same w _ Tryd.underlying72 hj]
  go_wp2
  go_end0
  exact ⟨rfl, rfl⟩
set_option maxHeartbeats 1000000 in
set_option maxRecDepth 100000 in
theorem copy_fresh (b : Nat) (w : World) (h0 : w.cell? ⟨b, 0, none⟩ = some (.pointer none)) (hsh : w.shape? b = some (75, 2)) (hfz : w.frozen? ⟨b, 0, none⟩ = false) :
    Calls Tryd.prog 63 #[.pointer (some ⟨b, 0, none⟩)] w fun e w' => e = .returned (.tuple #[]) ∧ w' = w.setCell ⟨b, 0, none⟩ (.pointer (some ⟨b, 0, none⟩)) := by
  obtain ⟨j, hj, hjs⟩ := Option.map_eq_some_iff.1 bSize
  go_enter Tryd.func63, Tryd.ntmps63
  go_wp2
  rw [Lib.run_to_unsafe w ⟨b, 0, none⟩ Tryd.underlying72 Tryd.underlying121 hj (by rw [hjs]; decide) hsh (Nat.zero_lt_succ 1)]
  simp only [Result.andThen]
  rw [Oper.upon_value]
  go_wp2
  rw [run_callFunc_extern Tryd.func83 (by kernel_rfl) (by kernel_rfl) (by kernel_rfl) (e := Extern.AbiNoEscape.same) (by kernel_rfl)]
  rw [Lib.run_noEscape]
  simp only [Result.andThen]
  rw [Oper.upon_value]
  go_wp2
  rw [Lib.run_from_unsafe w ⟨b, 0, none⟩ Tryd.underlying121 Tryd.underlying72 hj hsh bLies]
  simp only [Result.andThen]
  rw [Oper.upon_value]
  go_wp2
  go_end0
  exact ⟨rfl, rfl⟩
theorem copyCheck (B b : Nat) (bs : List Value) (w : World) (h : Lib.IsBuilderF 75 5 B b bs w) :
    Calls Tryd.prog 63 #[.pointer (some ⟨b, 0, none⟩)] w fun e w' => e = .returned (.tuple #[]) ∧ (Lib.BuilderAtF 75 5 B b (.pointer (some ⟨b, 0, none⟩)) bs w' ∧ Below B w w' ∧ Lib.OthersKept 5 (some b) w w') := by
  rcases h with h | h
  · refine (copy_fresh b w h.cell0 h.shape h.frozen0).mono ?_
    rintro e w' ⟨rfl, rfl⟩
    exact ⟨rfl, h.used _, (Below.refl B w).setCell (p := ⟨b, 0, none⟩) h.1 _, (Lib.OthersKept.refl 5 (some b) w).setCell ⟨b, 0, none⟩ rfl _⟩
  · refine (copy_used b w h.cell0).mono ?_
    rintro e w' ⟨rfl, rfl⟩
    exact ⟨rfl, h, Below.refl B _, Lib.OthersKept.refl 5 (some b) _⟩
set_option maxHeartbeats 2000000 in
set_option maxRecDepth 100000 in
theorem writeByte (B b : Nat) (bs : List Value) (c : Int) (w : World) (h : Lib.IsBuilderF 75 5 B b bs w) (hlen : bs.length + 1 ≤ 140737488355328) (hBw : B ≤ w.heap.size) :
    Calls Tryd.prog 43 #[.pointer (some ⟨b, 0, none⟩), .int .u8 c] w fun e w' => e = .returned .nilIface ∧ (Lib.BuilderAtF 75 5 B b (.pointer (some ⟨b, 0, none⟩)) (bs ++ [.int .u8 c]) w' ∧ Below B w w' ∧ Lib.OthersKept 5 (some b) w w') := by
  obtain ⟨i0, hi, hz0, hz1, hz2⟩ := info_parts bByte
  go_enter Tryd.func43, Tryd.ntmps43
  go_wp2_with (go_at_call 63; refine (copyCheck B b bs _ h).mono ?_)
  rintro e w1 ⟨rfl, h1, hb1, hk1⟩
  obtain ⟨hB, v, hbk, hown, hne⟩ := h1
  have c0 : w1.cell? ⟨b, 0, none⟩ = some (.pointer (some ⟨b, 0, none⟩)) := by rw [Lib.cell_of_heap hbk]; rfl
  have c1 : w1.cell? ⟨b, 1, none⟩ = some v := by rw [Lib.cell_of_heap hbk]; rfl
  go_wp2_with (at_builtin; refine wpList_append_ownF _ rfl _ _ 73 rfl B 5 i0 (.int .u8 0) 1 1 Tryd.underlying73 hi hz0 hz1 hz2 rfl (by decide) _ _ _ rfl (hown.alloc _) ⟨w1.heap.size, 0, none⟩ 1 1 [.int .u8 c] rfl rfl ?c1 ?c2 ?c3 ?c4 ?c5 ?_)
  case c1 =>
    intro j u hj
    match j, hj with
    | 0, hj => simp at hj; subst hj; simp [Addr.add]
  case c2 => intro u hu; simp at hu; subst hu; rfl
  case c3 => unfold maxLen; omega
  case c4 => omega
  case c5 => have := hb1.size; simp; omega
  intro v' w2 hown' hgrow _
  have hlt : b < w1.heap.size := by
    rcases Nat.lt_or_ge b w1.heap.size with h' | h'
    · exact h'
    · simp [Array.getElem?_eq_none h'] at hbk
  have hb2 : w2.heap[b]? = some (.cells #[.pointer (some ⟨b, 0, none⟩), v] 75 (0, 0)) := by
    rw [hgrow.block b (by simp; omega) (fun e => hne e.symm), Lib.alloc_old w1 _ b hlt]
    exact hbk
  have d0 : w2.cell? ⟨b, 0, none⟩ = some (.pointer (some ⟨b, 0, none⟩)) := by rw [Lib.cell_of_heap hb2]; rfl
  have d1 : w2.cell? ⟨b, 1, none⟩ = some v := by rw [Lib.cell_of_heap hb2]; rfl
  have f1 : w2.frozen? ⟨b, 1, none⟩ = false := Lib.frozen_of_heap hb2 1
  obtain ⟨g, cap, rfl⟩ : ∃ g cap, v' = .slice (some ⟨g, 0, none⟩) (bs.length + 1) cap := by
    rcases hown'.2 with ⟨_, h0⟩ | ⟨g, cap, cur, fz, hv, _⟩
    · omega
    · exact ⟨g, cap, hv⟩
  go_wp2
  go_ret
  refine ⟨rfl, ?_, ?_, ((hk1.alloc _).grown hgrow (Lib.ownsRowF_kind (hown.alloc _))).setCell ⟨b, 1, none⟩ rfl _⟩
  · exact Lib.BuilderAtF.put (T := 75) (e := 5) hB hb2 (bs' := bs ++ [.int .u8 c]) (by simpa using hown') (by decide)
  · exact ((hb1.alloc (by have := hb1.size; omega) _).grown hgrow (by have := hb1.size; simp; omega) (fun k hk => (hown.lt k hk).1)).setCell (p := ⟨b, 1, none⟩) hB _
set_option maxHeartbeats 2000000 in
set_option maxRecDepth 100000 in
theorem writeString (B b : Nat) (bs : List Value) (s : ByteArray) (w : World) (h : Lib.IsBuilderF 75 5 B b bs w) (hlen : bs.length + s.size ≤ 140737488355328) (hBw : B ≤ w.heap.size) :
    Calls Tryd.prog 44 #[.pointer (some ⟨b, 0, none⟩), .string s] w fun e w' => e = .returned (.tuple #[.int .i64 s.size, .nilIface]) ∧ (Lib.BuilderAtF 75 5 B b (.pointer (some ⟨b, 0, none⟩)) (bs ++ Lib.strCells s) w' ∧ Below B w w') := by
  obtain ⟨i0, hi, hz0, hz1, hz2⟩ := info_parts bByte
  go_enter Tryd.func44, Tryd.ntmps44
  go_wp2_with (go_at_call 63; refine (copyCheck B b bs _ h).mono ?_)
  rintro e w1 ⟨rfl, h1, hb1, _⟩
  obtain ⟨hB, v, hbk, hown, hne⟩ := h1
  have c0 : w1.cell? ⟨b, 0, none⟩ = some (.pointer (some ⟨b, 0, none⟩)) := by rw [Lib.cell_of_heap hbk]; rfl
  have c1 : w1.cell? ⟨b, 1, none⟩ = some v := by rw [Lib.cell_of_heap hbk]; rfl
  go_wp2_with (at_builtin; refine Lib.wpList_append_own_stringF _ rfl _ _ 73 9 rfl B 5 i0 Tryd.underlying73 Tryd.underlying9 hi hz0 hz1 hz2 _ _ _ rfl hown s rfl ?c3 ?c4 ?c5 ?_)
  case c3 => unfold maxLen; omega
  case c4 => omega
  case c5 => have := hb1.size; omega
  intro v' w2 hown' hgrow _
  have hlt : b < w1.heap.size := by
    rcases Nat.lt_or_ge b w1.heap.size with h' | h'
    · exact h'
    · simp [Array.getElem?_eq_none h'] at hbk
  have hb2 : w2.heap[b]? = some (.cells #[.pointer (some ⟨b, 0, none⟩), v] 75 (0, 0)) := by
    rw [hgrow.block b hlt (fun e => hne e.symm)]
    exact hbk
  have d0 : w2.cell? ⟨b, 0, none⟩ = some (.pointer (some ⟨b, 0, none⟩)) := by rw [Lib.cell_of_heap hb2]; rfl
  have d1 : w2.cell? ⟨b, 1, none⟩ = some v := by rw [Lib.cell_of_heap hb2]; rfl
  have f1 : w2.frozen? ⟨b, 1, none⟩ = false := Lib.frozen_of_heap hb2 1
  obtain ⟨ao, n', cap, rfl⟩ : ∃ ao n' cap, v' = .slice ao n' cap := by
    rcases hown'.2 with ⟨hv, _⟩ | ⟨g, cap, cur, fz, hv, _⟩
    · exact ⟨_, _, _, hv⟩
    · exact ⟨_, _, _, hv⟩
  go_wp2
  go_ret2
  refine ⟨rfl, ?_, ?_⟩
  · exact Lib.BuilderAtF.put (T := 75) (e := 5) hB hb2 (bs' := bs ++ Lib.strCells s) (by simpa [Lib.strCells_length] using hown') (by decide)
  · exact (hb1.grown hgrow (by have := hb1.size; omega) (fun k hk => (hown.lt k hk).1)).setCell (p := ⟨b, 1, none⟩) hB _
/-- What lies below a mark stays a builder. -/
theorem builder_below {B b : Nat} {p : Value} {bs : List Value} {w w' : World} (h : Lib.BuilderAtF 75 5 B b p bs w) (hb : Below w.heap.size w w') : Lib.BuilderAtF 75 5 B b p bs w' := by
  obtain ⟨hB, v, hbk, ⟨hl, hown⟩, hne⟩ := h
  have at_ : ∀ k o, w.heap[k]? = some o → w'.heap[k]? = some o := fun k o hk => (hb.block k (Array.getElem?_eq_some_iff.1 hk).1).trans hk
  refine ⟨hB, v, at_ _ _ hbk, ⟨hl, ?_⟩, hne⟩
  rcases hown with hn | ⟨g, cap, cur, fz, hv, hbg, hg, rest⟩
  · exact .inl hn
  · exact .inr ⟨g, cap, cur, fz, hv, hbg, at_ _ _ hg, rest⟩
theorem isBuilder_below {B b : Nat} {bs : List Value} {w w' : World} (h : Lib.IsBuilderF 75 5 B b bs w) (hb : Below w.heap.size w w') : Lib.IsBuilderF 75 5 B b bs w' := by
  rcases h with h | h
  · exact .inl (builder_below h hb)
  · exact .inr (builder_below h hb)
end Go.Proofs.YtaogoabnidbbpaaDoor.PText
/-! TextJoin -/
namespace Go.Proofs.YtaogoabnidbbpaaDoor.PText
open Go.RowKit Go.Proofs.YtaogoabnidbbpaaDoorW.PrintWords Go.Proofs.YtaogoabnidbbpaaDoorW.PrintLast Go.Proofs.YtaogoabnidbbpaaDoorW.PrintMore
set_option linter.unusedVariables false
/-- Texts with a blank between. -/
def joinL (ts : List Bs) : Bs := (ts.map (fun t => 32 :: t)).flatten.drop 1
theorem join_first (t : Bs) : joinL [t] = t := by simp [joinL]
theorem join_next (ts : List Bs) (t : Bs) (h : ts ≠ []) : joinL (ts ++ [t]) = joinL ts ++ [32] ++ t := by
  unfold joinL
  rw [List.map_append, List.flatten_append, List.drop_append_of_le_length]
  · simp
  · cases ts with
    | nil => exact absurd rfl h
    | cons x xs => simp
def textsOf (xs : List S31) : List Bs := xs.map (fun x => x.f1.data.toList)
def lexis_Join.f (xs : List S31) : Option ByteArray := if (joinL (textsOf xs)).length ≤ 70368744177664 then some (bytesB (joinL (textsOf xs))) else none
theorem join_mono (ts : List Bs) (n : Nat) : (joinL (ts.take n)).length ≤ (joinL ts).length := by
  unfold joinL
  rw [List.length_drop, List.length_drop]
  have : ((List.take n ts).map (fun t => 32 :: t)).flatten.length ≤ (ts.map (fun t => 32 :: t)).flatten.length := by
    conv => rhs; rw [← List.take_append_drop n ts, List.map_append, List.flatten_append, List.length_append]
    omega
  omega
theorem join_len (ts : List Bs) : ts.length ≤ (joinL ts).length + 1 := by
  unfold joinL
  rw [List.length_drop]
  have : ts.length ≤ ((ts.map (fun t => 32 :: t)).flatten).length := by
    induction ts with
    | nil => exact Nat.le_refl _
    | cons x xs ih => rw [List.map_cons, List.flatten_cons, List.length_append, List.length_cons, List.length_cons]; omega
  omega
theorem take_one {α : Type} (l : List α) (i : Nat) (h : i < l.length) : l.take (i + 1) = l.take i ++ [l[i]] := by
  rw [List.take_add_one, List.getElem?_eq_getElem h]; rfl
theorem strCells_bytes (s : ByteArray) : Lib.strCells s = Lib.byteCells s.data.toList := by
  simp [Lib.strCells, Lib.byteCells]
set_option maxHeartbeats 8000000 in
set_option maxRecDepth 100000 in
theorem lexis_Join.calls (A0 : Option Addr) (c0 : Nat) (l0 : List (S31)) (r : ByteArray) (w : World) (hr0 : Kd.C k31 w A0 l0.length l0) (hc0 : l0.length ≤ c0) (h : lexis_Join.f l0 = some r) :
    Calls Tryd.prog 17 #[.slice A0 l0.length c0] w fun e w' => e = .returned (.string r) ∧ Below w.heap.size w w' := by
  have hu31 := Tryd.underlying31
  unfold lexis_Join.f at h
  by_cases hn : (joinL (textsOf l0)).length ≤ 70368744177664
  · rw [if_pos hn] at h
    have hr := Option.some.inj h
    clear h
    subst hr
    have HR0 := Aside0.mk hr0
    have HC0 := Aside0.mk hc0
    have HN := Aside0.mk hn
    clear hr0 hc0 hn
    go_enter Tryd.func17, Tryd.ntmps17
    go_wp2
    go_loopg [8] l0.length (fun kq v8 w' => ∃ (i : Nat) (z : Int), v8 = .int .i64 z ∧ Aside0 (z = (i : Int) ∧ i + kq = l0.length) ∧ Aside0 (Lib.IsBuilderF 75 5 w.heap.size w.heap.size (Lib.byteCells (joinL (textsOf (l0.take i)))) w') ∧ Aside0 (Below w.heap.size w w'))
    case atStart => exact ⟨0, 0, rfl, ⟨rfl, by omega⟩, ⟨Lib.IsBuilderF.of (Lib.fresh_isBuilder 75 5 w)⟩, ⟨below_alloc (Below.refl _ w) _⟩⟩
    case round =>
      obtain ⟨i, z, rfl, hz, HI, HB⟩ := hrel
      cases gk with
      | zero =>
        have hi : i = l0.length := by have := hz.out.2; omega
        have c1 : decide (z < (l0.length : Int)) = false := decide_eq_false (by rw [hz.out.1]; omega)
        have HI2 := Aside0.mk (show Lib.IsBuilderF 75 5 w.heap.size w.heap.size (Lib.byteCells (joinL (textsOf l0))) wr by have := HI.out; rw [hi, List.take_length] at this; exact this)
        clear HI
        go_wp2_with (go_at_call 45; refine (Tryd.Builder_String_any_f w.heap.size w.heap.size _ _ HI2.out HB.out.size).mono ?_)
        rintro e w2 ⟨rfl, _, hb2⟩
        go_wp2
        go_ret
        exact ⟨rfl, HB.out.trans hb2⟩
      | succ k1 =>
        have hi : i < l0.length := by have := hz.out.2; omega
        have p157 : 0 ≤ z := by rw [hz.out.1]; omega
        have q157 : z < (l0.length : Int) := by rw [hz.out.1]; omega
        have c1 : decide (z < (l0.length : Int)) = true := decide_eq_true q157
        obtain ⟨ad157, e157, hx157_0, hx157_1, hx157_2⟩ := at_T31 HR0.out z p157 q157
        cases e157
        replace hx157_0 := (HB.out.cell (World.block_lt_of_cell? w _ hx157_0)).trans hx157_0
        replace hx157_1 := (HB.out.cell (World.block_lt_of_cell? w _ hx157_1)).trans hx157_1
        replace hx157_2 := (HB.out.cell (World.block_lt_of_cell? w _ hx157_2)).trans hx157_2
        replace p157 := eq_true p157
        replace q157 := eq_true q157
        have hrd : Aside0 (rd_T31 l0 z = l0[i]) := ⟨by unfold rd_T31; rw [hz.out.1, Int.toNat_natCast]; simp [List.getD_eq_getElem?_getD, hi]⟩
        have htk : Aside0 (textsOf (l0.take (i + 1)) = textsOf (l0.take i) ++ [(rd_T31 l0 z).f1.data.toList]) := ⟨by unfold textsOf; rw [take_one l0 i hi, List.map_append, hrd.out]; rfl⟩
        have hlen : (joinL (textsOf (l0.take (i + 1)))).length ≤ 70368744177664 := by
          have h1 := join_mono (textsOf l0) (i + 1)
          have h2 : (textsOf l0).take (i + 1) = textsOf (l0.take (i + 1)) := by unfold textsOf; rw [List.map_take]
          rw [h2] at h1
          have := HN.out
          omega
        have hw : Aside0 (wrap64 (z + 1) = ((i + 1 : Nat) : Int)) := ⟨by have h7 := hz.out.1; have h8 := join_len (textsOf l0); have h9 := HN.out; rw [show (textsOf l0).length = l0.length from List.length_map _] at h8; clear hlen; unfold wrap64; rw [h7]; omega⟩
        have hss := size_eq (rd_T31 l0 z).f1
        have HBq := Aside0.mk (below_alloc HB.out (.cells #[.int .u8 (rd_T31 l0 z).f0, .string (rd_T31 l0 z).f1, .int .i64 (rd_T31 l0 z).f2] 31))
        have HIa := Aside0.mk (isBuilder_below HI.out (below_alloc (Below.refl wr.heap.size wr) (.cells #[.int .u8 (rd_T31 l0 z).f0, .string (rd_T31 l0 z).f1, .int .i64 (rd_T31 l0 z).f2] 31)))
        have hgb : Aside0 ((wr.alloc (.cells #[.int .u8 (rd_T31 l0 z).f0, .string (rd_T31 l0 z).f1, .int .i64 (rd_T31 l0 z).f2] 31)).heap[wr.heap.size]? = some (.cells #[.int .u8 (rd_T31 l0 z).f0, .string (rd_T31 l0 z).f1, .int .i64 (rd_T31 l0 z).f2] 31 (0, 0))) := ⟨Array.getElem?_push_size⟩
        have hne : w.heap.size ≠ wr.heap.size := by
          have h1 : w.heap.size < wr.heap.size := by rcases HI.out with h | h <;> exact h.lt
          omega
        by_cases h0 : 0 < z
        · have c2 : decide (0 < z) = true := decide_eq_true h0
          have hts : textsOf (l0.take i) ≠ [] := by
            unfold textsOf
            intro e
            have := congrArg List.length e
            rw [List.length_map, List.length_take, List.length_nil] at this
            have := hz.out.1
            omega
          have hj := join_next (textsOf (l0.take i)) (rd_T31 l0 z).f1.data.toList hts
          rw [← htk.out] at hj
          have hjl : Aside0 ((joinL (textsOf (l0.take i))).length + 1 + (rd_T31 l0 z).f1.size ≤ 70368744177664) := ⟨by rw [hj] at hlen; simp only [List.length_append, List.length_cons, List.length_nil] at hlen; omega⟩
          have hnext : Aside0 (∀ W, Lib.BuilderAtF 75 5 w.heap.size w.heap.size (.pointer (some ⟨w.heap.size, 0, none⟩)) (Lib.byteCells (joinL (textsOf (l0.take i))) ++ [.int .u8 32] ++ Lib.strCells (rd_T31 l0 z).f1) W → Lib.IsBuilderF 75 5 w.heap.size w.heap.size (Lib.byteCells (joinL (textsOf (l0.take (i + 1))))) W) := ⟨fun W hW => Or.inr (by rw [hj, Lib.byteCells_append, Lib.byteCells_append, ← strCells_bytes]; exact hW)⟩
          clear hj hlen hss
          go_wp2_with (go_at_call 43; refine (writeByte w.heap.size w.heap.size _ 32 _ HIa.out (by rw [Lib.byteCells_length]; have := hjl.out; omega) (by have := HBq.out.size; exact this)).mono ?_)
          rintro e w1 ⟨rfl, h1, hb1, hk1⟩
          have HBw := Aside0.mk (HBq.out.trans hb1)
          have hg1 := hk1 _ _ hgb.out (by intro e; exact hne (Option.some.inj e).symm) (by intro c fz e; cases e)
          have hcz := (Lib.cell_of_heap (j := 1) hg1)
          clear HB HBq
          have HBq := HBw
          have HB := HBw
          go_wp2_with (go_at_call 44; refine (writeString w.heap.size w.heap.size _ (rd_T31 l0 z).f1 _ (Or.inr h1) (by rw [List.length_append, Lib.byteCells_length, List.length_cons, List.length_nil]; have := hjl.out; omega) HBq.out.size).mono ?_)
          rintro e w2 ⟨rfl, h2, hb2⟩
          have HB2 := Aside0.mk (HBq.out.trans hb2)
          clear HB hb2
          have HB := HB2
          go_wp2
          go_roundg k1
          case measure => omega
          case rel => exact ⟨i + 1, _, rfl, ⟨hw.out, by have := hz.out.2; omega⟩, ⟨hnext.out _ h2⟩, HB2⟩
        · have c2 : decide (0 < z) = false := decide_eq_false h0
          replace h0 := Int.not_lt.1 h0
          have hi0 : Aside0 (i = 0) := ⟨by have := hz.out.1; omega⟩
          have hjl : Aside0 ((rd_T31 l0 z).f1.size ≤ 70368744177664) := ⟨by rw [htk.out, hi0.out] at hlen; rw [show textsOf (l0.take 0) = [] from rfl, List.nil_append, join_first] at hlen; omega⟩
          have hnext : Aside0 (∀ W, Lib.BuilderAtF 75 5 w.heap.size w.heap.size (.pointer (some ⟨w.heap.size, 0, none⟩)) (Lib.byteCells (joinL (textsOf (l0.take i))) ++ Lib.strCells (rd_T31 l0 z).f1) W → Lib.IsBuilderF 75 5 w.heap.size w.heap.size (Lib.byteCells (joinL (textsOf (l0.take (i + 1))))) W) := ⟨fun W hW => Or.inr (by rw [htk.out]; rw [hi0.out] at hW ⊢; rw [show textsOf (l0.take 0) = [] from rfl, List.nil_append, join_first, ← strCells_bytes]; exact hW)⟩
          have hjz : Aside0 (Lib.byteCells (joinL (textsOf (l0.take i))) = []) := ⟨by rw [hi0.out]; rfl⟩
          clear hlen hss
          go_wp2_with (go_at_call 44; refine (writeString w.heap.size w.heap.size _ (rd_T31 l0 z).f1 _ HIa.out (by rw [hjz.out]; have := hjl.out; simp only [List.length_nil]; omega) HBq.out.size).mono ?_)
          rintro e w2 ⟨rfl, h2, hb2⟩
          have HB2 := Aside0.mk (HBq.out.trans hb2)
          clear HB hb2
          have HB := HB2
          go_wp2
          go_roundg k1
          case measure => omega
          case rel => exact ⟨i + 1, _, rfl, ⟨hw.out, by have := hz.out.2; omega⟩, ⟨hnext.out _ h2⟩, HB2⟩
  · rw [if_neg hn] at h; cases h
end Go.Proofs.YtaogoabnidbbpaaDoor.PText
/-! TextLexer -/
namespace Go.Proofs.YtaogoabnidbbpaaDoor.PText
open Go.RowKit Go.Proofs.YtaogoabnidbbpaaDoorW.PrintWords Go.Proofs.YtaogoabnidbbpaaDoorW.PrintLast Go.Proofs.YtaogoabnidbbpaaDoorW.PrintMore
set_option linter.unusedVariables false
abbrev Wd := S31
def lexF : Nat → Bs → Nat → Except Nat (List Wd)
  | 0, _, _ => .ok []
  | _ + 1, [], _ => .ok []
  | n + 1, c :: t, i => if c = 32 then lexF n t (i + 1) else if firstL (c :: t) = [] then .error i else
      match lexF n ((c :: t).drop (firstL (c :: t)).length) (i + (firstL (c :: t)).length) with
      | .ok ws => .ok (⟨(sortL (firstL (c :: t))).1, bytesB (firstL (c :: t)), (i : Int)⟩ :: ws)
      | .error e => .error e
def resF (acc : List Wd) : Except Nat (List Wd) → List Wd × Int × Int
  | .ok ws => (acc ++ ws, 0, 0)
  | .error e => ([], 140, (e : Int))
theorem lexF_cons (n : Nat) (c : UInt8) (t : Bs) (i : Nat) : lexF (n + 1) (c :: t) i = if c = 32 then lexF n t (i + 1) else if firstL (c :: t) = [] then .error i else
      match lexF n ((c :: t).drop (firstL (c :: t)).length) (i + (firstL (c :: t)).length) with
      | .ok ws => .ok (⟨(sortL (firstL (c :: t))).1, bytesB (firstL (c :: t)), (i : Int)⟩ :: ws)
      | .error e => .error e := by rw [lexF]
theorem lexF_nil (n : Nat) (i : Nat) : lexF n [] i = .ok [] := by cases n <;> rw [lexF]
theorem head_pre (l : Bs) : headL l <+: l := List.takeWhile_prefix _
theorem sign_fold (l : Bs) : ∀ (xs : List Bs) (b : Bs), (b = [] ∨ b ∈ signs ∧ b <+: l) → (∀ x ∈ xs, x ∈ signs) → (xs.foldl (longer l) b = [] ∨ xs.foldl (longer l) b ∈ signs ∧ xs.foldl (longer l) b <+: l) := by
  intro xs
  induction xs with
  | nil => intro b hb _; exact hb
  | cons x xs ih =>
    intro b hb hx
    rw [List.foldl_cons]
    refine ih _ ?_ (fun y hy => hx y (List.mem_cons_of_mem _ hy))
    unfold longer
    split
    · exact hb
    · split
      · rename_i h; exact .inr ⟨hx x List.mem_cons_self, List.isPrefixOf_iff_prefix.1 h⟩
      · exact hb
theorem sign_ok (l : Bs) : signL l = [] ∨ signL l ∈ signs ∧ signL l <+: l := sign_fold l signs [] (.inl rfl) (fun _ h => h)
theorem first_pre (l : Bs) : firstL l <+: l := by
  unfold firstL
  split
  · rcases sign_ok l with h | h
    · rw [h]; exact List.nil_prefix
    · exact h.2
  · split
    · exact head_pre l
    · exact List.nil_prefix
theorem drop_extract (s : ByteArray) (i : Nat) (h : i ≤ s.size) : (s.extract i s.size).data.toList = s.data.toList.drop i := by
  have h1 := size_eq s
  rw [ByteArray.data_extract, Array.toList_extract]
  simp [List.extract]
  rw [List.take_of_length_le (by rw [List.length_drop]; omega)]
attribute [local irreducible] firstL sortL
theorem words_loop (s : ByteArray) (hs : s.size ≤ 4096) (n : Nat) : ∀ (i : Nat) (acc : List Wd), i ≤ s.size → s.size - i ≤ n → acc.length ≤ i → Ev (fun k => lexis_Words.l0 k s acc i) (resF acc (lexF n (s.data.toList.drop i) i)) := by
  have hsz := size_eq s
  induction n with
  | zero =>
    intro i acc hi hn ha
    refine Ev.step (f := fun _ => some (acc, 0, 0)) (fun k => ?_) (by rw [show lexF 0 (s.data.toList.drop i) i = .ok [] by rw [lexF]]; rw [show resF acc (.ok []) = (acc ++ [], 0, 0) from rfl, List.append_nil]; exact Ev.now _)
    simp only [lexis_Words.l0]
    rw [if_neg (by omega)]
  | succ n ih =>
    intro i acc hi hn ha
    by_cases hil : i < s.size
    · have hl : i < s.data.toList.length := by omega
      have hd := List.drop_eq_getElem_cons hl
      obtain ⟨c, hc⟩ : ∃ c, c = s.data.toList[i] := ⟨_, rfl⟩
      have hb := bt_of s i hil
      rw [← hc] at hb hd
      by_cases h32 : c = 32
      · have hw : wrap64 ((i : Int) + 1) = ((i + 1 : Nat) : Int) := by unfold wrap64; omega
        have hv : lexF (n + 1) (s.data.toList.drop i) i = lexF n (s.data.toList.drop (i + 1)) (i + 1) := by rw [hd, lexF_cons, if_pos h32]
        rw [hv]
        refine Ev.step (fun k => ?_) (ih (i + 1) acc (by omega) (by omega) (by omega))
        simp only [lexis_Words.l0]
        rw [if_pos (by omega), if_pos (by omega), if_pos (by rw [hb, h32]; rfl), hw]
      · have hb32 : ¬ bt s i = 32 := by
          rw [hb]
          intro e
          apply h32
          apply UInt8.toNat_inj.1
          have : (32 : UInt8).toNat = 32 := rfl
          omega
        obtain ⟨w, hw⟩ : ∃ w, w = firstL (s.data.toList.drop i) := ⟨_, rfl⟩
        have hf : lexis_first.f (s.extract ((i : Int)).toNat s.size) = some (bytesB w) := by
          unfold lexis_first.f
          rw [Int.toNat_natCast, drop_extract s i hi, hw]
        have htl : (bytesB w).toList = w := bytes_eq w
        by_cases hw0 : w = []
        · have hv : lexF (n + 1) (s.data.toList.drop i) i = .error i := by
            rw [hd] at hw ⊢
            rw [lexF_cons, if_neg h32, if_pos (by rw [← hw]; exact hw0)]
          rw [hv]
          refine Ev.step (f := fun _ => some (([] : List Wd), 140, (i : Int))) (fun k => ?_) (Ev.now _)
          simp only [lexis_Words.l0]
          rw [if_pos (by omega), if_pos (by omega), if_neg hb32, if_pos (by omega), hf]
          simp only [Option.bind_some]
          rw [if_pos (by rw [htl]; exact hw0)]
        · have hp := first_pre (s.data.toList.drop i)
          rw [← hw] at hp
          have hpl := hp.length_le
          rw [List.length_drop] at hpl
          have hw1 : 1 ≤ w.length := by
            rcases w with _ | ⟨x, t⟩
            · exact absurd rfl hw0
            · simp
          have hwr : Aside0 (wrap64 ((i : Int) + ((bytesB w).size : Int)) = ((i + w.length : Nat) : Int)) := ⟨by rw [size_bytesB]; unfold wrap64; omega⟩
          have hv : resF acc (lexF (n + 1) (s.data.toList.drop i) i) = resF (acc ++ [⟨(sortL w).1, bytesB w, (i : Int)⟩]) (lexF n (s.data.toList.drop (i + w.length)) (i + w.length)) := by
            have h5 : s.data.toList.drop (i + w.length) = (s.data.toList.drop i).drop w.length := by rw [List.drop_drop]
            rw [h5]
            rw [hd] at hw ⊢
            rw [lexF_cons, if_neg h32, if_neg (by rw [← hw]; exact hw0), ← hw]
            cases lexF n (List.drop w.length (c :: s.data.toList.drop (i + 1))) (i + w.length) with
            | ok ws => simp [resF]
            | error e => rfl
          rw [hv]
          have hsE := sort_ev (bytesB w)
          rw [show (bytesB w).data.toList = w from rfl] at hsE
          obtain ⟨nxt, hnxt⟩ : ∃ nxt : Wd → List Wd, nxt = fun x => acc ++ [x] := ⟨_, rfl⟩
          have hstep : ∀ k, lexis_Words.l0 (k + 1) s acc i = (lexis_Sort.f k (bytesB w)).bind fun p => lexis_Words.l0 k s (nxt ⟨p.1, bytesB w, (i : Int)⟩) ((i + w.length : Nat) : Int) := by
            intro k
            have hac : acc.length < 4398046511104 := by omega
            have c1 : (i : Int) < (s.size : Int) := by omega
            have c2 : (0 : Int) ≤ (i : Int) := by omega
            have c3 : (i : Int) ≤ (s.size : Int) := by omega
            have c4 : ¬ (bytesB w).toList = [] := by rw [htl]; exact hw0
            simp only [lexis_Words.l0, if_pos c1, if_pos c2, if_neg hb32, if_pos c3, if_pos hac, hf, Option.bind_some, if_neg c4, hwr.out, hnxt]
          have hgo := ih (i + w.length) (nxt ⟨(sortL w).1, bytesB w, (i : Int)⟩) (by omega) (by omega) (by rw [hnxt]; show (acc ++ [_]).length ≤ _; rw [List.length_append, List.length_cons, List.length_nil]; omega)
          have hfin : Ev (fun k => (lexis_Sort.f k (bytesB w)).bind fun p => lexis_Words.l0 k s (nxt ⟨p.1, bytesB w, (i : Int)⟩) ((i + w.length : Nat) : Int)) (resF (nxt ⟨(sortL w).1, bytesB w, (i : Int)⟩) (lexF n (s.data.toList.drop (i + w.length)) (i + w.length))) :=
            Ev.bind (f := fun k p => lexis_Words.l0 k s (nxt ⟨p.1, bytesB w, (i : Int)⟩) ((i + w.length : Nat) : Int)) hsE hgo
          rw [hnxt] at hfin hstep
          exact Ev.step hstep hfin
    · have hv : lexF (n + 1) (s.data.toList.drop i) i = .ok [] := by rw [List.drop_of_length_le (by omega), lexF_nil]
      rw [hv]
      refine Ev.step (f := fun _ => some (acc, 0, 0)) (fun k => ?_) (by rw [show resF acc (.ok []) = (acc ++ [], 0, 0) from rfl, List.append_nil]; exact Ev.now _)
      simp only [lexis_Words.l0]
      rw [if_neg (by omega)]
/-- The words of a text. -/
def wordsL (l : Bs) : List Wd × Int × Int := if l.length ≤ 4096 then resF [] (lexF l.length l 0) else ([], 3, -1)
theorem words_ev (s : ByteArray) : Ev (fun k => lexis_Words.f k s) (wordsL s.data.toList) := by
  have hsz := size_eq s
  unfold wordsL
  by_cases h : s.data.toList.length ≤ 4096
  · rw [if_pos h]
    refine Ev.congr (f := fun k => lexis_Words.l0 k s [] ((0 : Nat) : Int)) (fun k => ?_) (by rw [hsz]; exact words_loop s (by omega) s.size 0 [] (Nat.zero_le _) (by omega) (Nat.zero_le _))
    unfold lexis_Words.f
    rw [if_neg (by omega)]
    rfl
  · rw [if_neg h]
    refine Ev.congr (f := fun _ => some (([] : List Wd), 3, -1)) (fun k => ?_) (Ev.now _)
    unfold lexis_Words.f
    rw [if_pos (by omega)]
end Go.Proofs.YtaogoabnidbbpaaDoor.PText
/-! TextParser -/
namespace Go.Proofs.YtaogoabnidbbpaaDoor.PText
open Go.RowKit Go.Proofs.YtaogoabnidbbpaaDoorW.PrintWords Go.Proofs.YtaogoabnidbbpaaDoorW.PrintLast Go.Proofs.YtaogoabnidbbpaaDoorW.PrintMore
set_option linter.unusedVariables false
abbrev Tk := S55
/-- The reader's methods, and the loops inside them. -/
inductive Nt where
  | iff | imp | or | and | til | unary | atom | plus | seq | star | bare
  | moreIff | moreOr | moreAnd | morePlus | moreSeq | stars
/-- The words that are left, the tokens that are out. -/
structure Rd where
  ws : List Wd
  out : List Tk
/-- How a method ends: it goes on, or it stops with an error and a place. -/
inductive End where
  | go (r : Rd)
  | stop (e at_ : Int)
def Rd.next (r : Rd) : Bs := match r.ws with | [] => [] | w :: _ => w.f1.data.toList
def Rd.pop (r : Rd) : Rd := ⟨r.ws.drop 1, r.out⟩
def Rd.put (r : Rd) (op : Int) : Rd := ⟨r.ws, r.out ++ [⟨op, 0⟩]⟩
def Rd.place (r : Rd) (last : Int) : Int := match r.ws with | [] => last | w :: _ => w.f2
def Rd.fail (r : Rd) (last e : Int) : End := .stop e (r.place last)
/-- What goes on behind a method. -/
def thenDo (x : Option End) (f : Rd → Option End) : Option End := match x with
  | none => none
  | some (.stop e a) => some (.stop e a)
  | some (.go r) => f r
/-- The next word, which must be this one. -/
def Rd.want (r : Rd) (last : Int) (s : Bs) (f : Rd → Option End) : Option End := if r.next = s then f r.pop else some (r.fail last 150)
/-- Where a name stands among the names. -/
def placeOf (names : List ByteArray) (s : Bs) : Option Nat := names.findIdx? (fun x => x.data.toList == s)
/-- A proposition. -/
def Rd.name (r : Rd) (names : List ByteArray) (last : Int) : Option End := match r.ws with
  | [] => some (r.fail last 150)
  | w :: _ => if w.f1.data.toList = [] ∨ w.f0 ≠ 2 then some (r.fail last 150) else match placeOf names w.f1.data.toList with
    | none => some (r.fail last 6)
    | some i => some (.go (⟨r.ws, r.out ++ [⟨2, (i : Int)⟩]⟩ : Rd).pop)
def run (names : List ByteArray) (last : Int) : Nat → Nt → Rd → Option End
  | 0, _, _ => none
  | n + 1, .iff, r => thenDo (run names last n .imp r) (run names last n .moreIff)
  | n + 1, .moreIff, r => if r.next = [60, 45, 62] then thenDo (run names last n .imp r.pop) (fun r => run names last n .moreIff (r.put 14)) else some (.go r)
  | n + 1, .imp, r => thenDo (run names last n .or r) (fun r => if r.next = [45, 62] then thenDo (run names last n .imp r.pop) (fun r => some (.go (r.put 13))) else some (.go r))
  | n + 1, .or, r => thenDo (run names last n .and r) (run names last n .moreOr)
  | n + 1, .moreOr, r => if r.next = [124] then thenDo (run names last n .and r.pop) (fun r => run names last n .moreOr (r.put 12)) else some (.go r)
  | n + 1, .and, r => thenDo (run names last n .til r) (run names last n .moreAnd)
  | n + 1, .moreAnd, r => if r.next = [38] then thenDo (run names last n .til r.pop) (fun r => run names last n .moreAnd (r.put 11)) else some (.go r)
  | n + 1, .til, r => thenDo (run names last n .unary r) (fun r => if r.next = [85] then thenDo (run names last n .til r.pop) (fun r => some (.go (r.put 15))) else if r.next = [82] then thenDo (run names last n .til r.pop) (fun r => some (.go (r.put 16))) else some (.go r))
  | n + 1, .unary, r =>
    if r.next = [33] then thenDo (run names last n .unary r.pop) (fun r => some (.go (r.put 6)))
    else if r.next = [88] then thenDo (run names last n .unary r.pop) (fun r => some (.go (r.put 7)))
    else if r.next = [78] then thenDo (run names last n .unary r.pop) (fun r => some (.go (r.put 8)))
    else if r.next = [70] then thenDo (run names last n .unary r.pop) (fun r => some (.go (r.put 9)))
    else if r.next = [71] then thenDo (run names last n .unary r.pop) (fun r => some (.go (r.put 10)))
    else if r.next = [60] then thenDo (run names last n .plus r.pop) (fun r => r.want last [62] (fun r => thenDo (run names last n .unary r) (fun r => some (.go (r.put 17)))))
    else if r.next = [91] then thenDo (run names last n .plus r.pop) (fun r => r.want last [93] (fun r => thenDo (run names last n .unary r) (fun r => some (.go (r.put 18)))))
    else run names last n .atom r
  | n + 1, .atom, r =>
    if r.next = [116, 114, 117, 101] then some (.go (r.put 0).pop)
    else if r.next = [102, 97, 108, 115, 101] then some (.go (r.put 1).pop)
    else if r.next = [108, 97, 115, 116] then some (.go (r.put 3).pop)
    else if r.next = [40] then thenDo (run names last n .iff r.pop) (fun r => r.want last [41] (fun r => some (.go r)))
    else r.name names last
  | n + 1, .plus, r => thenDo (run names last n .seq r) (run names last n .morePlus)
  | n + 1, .morePlus, r => if r.next = [43] then thenDo (run names last n .seq r.pop) (fun r => run names last n .morePlus (r.put 21)) else some (.go r)
  | n + 1, .seq, r => thenDo (run names last n .star r) (run names last n .moreSeq)
  | n + 1, .moreSeq, r => if r.next = [59] then thenDo (run names last n .star r.pop) (fun r => run names last n .moreSeq (r.put 22)) else some (.go r)
  | n + 1, .star, r => thenDo (run names last n .bare r) (run names last n .stars)
  | n + 1, .stars, r => if r.next = [42] then run names last n .stars (r.pop.put 23) else some (.go r)
  | n + 1, .bare, r =>
    if r.next = [123] then thenDo (run names last n .iff r.pop) (fun r => r.want last [125] (fun r => some (.go (r.put 19))))
    else if r.next = [63] then thenDo (run names last n .unary r.pop) (fun r => some (.go (r.put 20)))
    else if r.next = [40] then thenDo (run names last n .plus r.pop) (fun r => r.want last [41] (fun r => some (.go r)))
    else some (r.fail last 150)
/-- The words of a text, read from the given method on to their end. -/
def readW (names : List ByteArray) (last : Int) (n : Nat) (nt : Nt) (ws : List Wd) : Option End :=
  thenDo (run names last n nt ⟨ws, []⟩) (fun r => match r.ws with | [] => some (.go r) | _ :: _ => some (r.fail last 150))
end Go.Proofs.YtaogoabnidbbpaaDoor.PText
