/- lexis.Join, walked by hand. Conditions stand in each law. -/
import Derived.Test.YtaogoabnidbbpaaDoorTextBuild
import Derived.Test.YtaogoabnidbbpaaDoorPTextx0
namespace Go.Proofs.YtaogoabnidbbpaaDoor.PText
open Go.RowKit Go.Proofs.YtaogoabnidbbpaaDoorW.PrintWords Go.Proofs.YtaogoabnidbbpaaDoorW.PrintLast Go.Proofs.YtaogoabnidbbpaaDoorW.PrintMore
set_option linter.unusedVariables false
/-- Texts with a blank between. -/
def joinL (ts : List Bs) : Bs := (ts.map (fun t => 32 :: t)).flatten.drop 1
theorem join_first (t : Bs) : joinL [t] = t := by simp [joinL]
theorem join_next (ts : List Bs) (t : Bs) (h : ts ≠ []) : joinL (ts ++ [t]) = joinL ts ++ [32] ++ t := by
  unfold joinL
  rw [List.map_append, List.flatten_append, List.drop_append_of_le_length]
  · simp
  · cases ts with
    | nil => exact absurd rfl h
    | cons x xs => simp
def textsOf (xs : List S31) : List Bs := xs.map (fun x => x.f1.data.toList)
def lexis_Join.f (xs : List S31) : Option ByteArray := if (joinL (textsOf xs)).length ≤ 70368744177664 then some (bytesB (joinL (textsOf xs))) else none
theorem join_mono (ts : List Bs) (n : Nat) : (joinL (ts.take n)).length ≤ (joinL ts).length := by
  unfold joinL
  rw [List.length_drop, List.length_drop]
  have : ((List.take n ts).map (fun t => 32 :: t)).flatten.length ≤ (ts.map (fun t => 32 :: t)).flatten.length := by
    conv => rhs; rw [← List.take_append_drop n ts, List.map_append, List.flatten_append, List.length_append]
    omega
  omega
theorem join_len (ts : List Bs) : ts.length ≤ (joinL ts).length + 1 := by
  unfold joinL
  rw [List.length_drop]
  have : ts.length ≤ ((ts.map (fun t => 32 :: t)).flatten).length := by
    induction ts with
    | nil => exact Nat.le_refl _
    | cons x xs ih => rw [List.map_cons, List.flatten_cons, List.length_append, List.length_cons, List.length_cons]; omega
  omega
theorem take_one {α : Type} (l : List α) (i : Nat) (h : i < l.length) : l.take (i + 1) = l.take i ++ [l[i]] := by
  rw [List.take_add_one, List.getElem?_eq_getElem h]; rfl
theorem strCells_bytes (s : ByteArray) : Lib.strCells s = Lib.byteCells s.data.toList := by
  simp [Lib.strCells, Lib.byteCells]
set_option maxHeartbeats 8000000 in
set_option maxRecDepth 100000 in
theorem lexis_Join.calls (A0 : Option Addr) (c0 : Nat) (l0 : List (S31)) (r : ByteArray) (w : World) (hr0 : Kd.C k31 w A0 l0.length l0) (hc0 : l0.length ≤ c0) (h : lexis_Join.f l0 = some r) :
    Calls Tryd.prog 17 #[.slice A0 l0.length c0] w fun e w' => e = .returned (.string r) ∧ Below w.heap.size w w' := by
  have hu31 := Tryd.underlying31
  unfold lexis_Join.f at h
  by_cases hn : (joinL (textsOf l0)).length ≤ 70368744177664
  · rw [if_pos hn] at h
    have hr := Option.some.inj h
    clear h
    subst hr
    have HR0 := Aside0.mk hr0
    have HC0 := Aside0.mk hc0
    have HN := Aside0.mk hn
    clear hr0 hc0 hn
    go_enter Tryd.func17, Tryd.ntmps17
    go_wp2
    go_loopg [8] l0.length (fun kq v8 w' => ∃ (i : Nat) (z : Int), v8 = .int .i64 z ∧ Aside0 (z = (i : Int) ∧ i + kq = l0.length) ∧ Aside0 (Lib.IsBuilderF 75 5 w.heap.size w.heap.size (Lib.byteCells (joinL (textsOf (l0.take i)))) w') ∧ Aside0 (Below w.heap.size w w'))
    case atStart => exact ⟨0, 0, rfl, ⟨rfl, by omega⟩, ⟨Lib.IsBuilderF.of (Lib.fresh_isBuilder 75 5 w)⟩, ⟨below_alloc (Below.refl _ w) _⟩⟩
    case round =>
      obtain ⟨i, z, rfl, hz, HI, HB⟩ := hrel
      cases gk with
      | zero =>
        have hi : i = l0.length := by have := hz.out.2; omega
        have c1 : decide (z < (l0.length : Int)) = false := decide_eq_false (by rw [hz.out.1]; omega)
        have HI2 := Aside0.mk (show Lib.IsBuilderF 75 5 w.heap.size w.heap.size (Lib.byteCells (joinL (textsOf l0))) wr by have := HI.out; rw [hi, List.take_length] at this; exact this)
        clear HI
        go_wp2_with (go_at_call 45; refine (Tryd.Builder_String_any_f w.heap.size w.heap.size _ _ HI2.out HB.out.size).mono ?_)
        rintro e w2 ⟨rfl, _, hb2⟩
        go_wp2
        go_ret
        exact ⟨rfl, HB.out.trans hb2⟩
      | succ k1 =>
        have hi : i < l0.length := by have := hz.out.2; omega
        have p157 : 0 ≤ z := by rw [hz.out.1]; omega
        have q157 : z < (l0.length : Int) := by rw [hz.out.1]; omega
        have c1 : decide (z < (l0.length : Int)) = true := decide_eq_true q157
        obtain ⟨ad157, e157, hx157_0, hx157_1, hx157_2⟩ := at_T31 HR0.out z p157 q157
        cases e157
        replace hx157_0 := (HB.out.cell (World.block_lt_of_cell? w _ hx157_0)).trans hx157_0
        replace hx157_1 := (HB.out.cell (World.block_lt_of_cell? w _ hx157_1)).trans hx157_1
        replace hx157_2 := (HB.out.cell (World.block_lt_of_cell? w _ hx157_2)).trans hx157_2
        replace p157 := eq_true p157
        replace q157 := eq_true q157
        have hrd : Aside0 (rd_T31 l0 z = l0[i]) := ⟨by unfold rd_T31; rw [hz.out.1, Int.toNat_natCast]; simp [List.getD_eq_getElem?_getD, hi]⟩
        have htk : Aside0 (textsOf (l0.take (i + 1)) = textsOf (l0.take i) ++ [(rd_T31 l0 z).f1.data.toList]) := ⟨by unfold textsOf; rw [take_one l0 i hi, List.map_append, hrd.out]; rfl⟩
        have hlen : (joinL (textsOf (l0.take (i + 1)))).length ≤ 70368744177664 := by
          have h1 := join_mono (textsOf l0) (i + 1)
          have h2 : (textsOf l0).take (i + 1) = textsOf (l0.take (i + 1)) := by unfold textsOf; rw [List.map_take]
          rw [h2] at h1
          have := HN.out
          omega
        have hw : Aside0 (wrap64 (z + 1) = ((i + 1 : Nat) : Int)) := ⟨by have h7 := hz.out.1; have h8 := join_len (textsOf l0); have h9 := HN.out; rw [show (textsOf l0).length = l0.length from List.length_map _] at h8; clear hlen; unfold wrap64; rw [h7]; omega⟩
        have hss := size_eq (rd_T31 l0 z).f1
        have HBq := Aside0.mk (below_alloc HB.out (.cells #[.int .u8 (rd_T31 l0 z).f0, .string (rd_T31 l0 z).f1, .int .i64 (rd_T31 l0 z).f2] 31))
        have HIa := Aside0.mk (isBuilder_below HI.out (below_alloc (Below.refl wr.heap.size wr) (.cells #[.int .u8 (rd_T31 l0 z).f0, .string (rd_T31 l0 z).f1, .int .i64 (rd_T31 l0 z).f2] 31)))
        have hgb : Aside0 ((wr.alloc (.cells #[.int .u8 (rd_T31 l0 z).f0, .string (rd_T31 l0 z).f1, .int .i64 (rd_T31 l0 z).f2] 31)).heap[wr.heap.size]? = some (.cells #[.int .u8 (rd_T31 l0 z).f0, .string (rd_T31 l0 z).f1, .int .i64 (rd_T31 l0 z).f2] 31 (0, 0))) := ⟨Array.getElem?_push_size⟩
        have hne : w.heap.size ≠ wr.heap.size := by
          have h1 : w.heap.size < wr.heap.size := by rcases HI.out with h | h <;> exact h.lt
          omega
        by_cases h0 : 0 < z
        · have c2 : decide (0 < z) = true := decide_eq_true h0
          have hts : textsOf (l0.take i) ≠ [] := by
            unfold textsOf
            intro e
            have := congrArg List.length e
            rw [List.length_map, List.length_take, List.length_nil] at this
            have := hz.out.1
            omega
          have hj := join_next (textsOf (l0.take i)) (rd_T31 l0 z).f1.data.toList hts
          rw [← htk.out] at hj
          have hjl : Aside0 ((joinL (textsOf (l0.take i))).length + 1 + (rd_T31 l0 z).f1.size ≤ 70368744177664) := ⟨by rw [hj] at hlen; simp only [List.length_append, List.length_cons, List.length_nil] at hlen; omega⟩
          have hnext : Aside0 (∀ W, Lib.BuilderAtF 75 5 w.heap.size w.heap.size (.pointer (some ⟨w.heap.size, 0, none⟩)) (Lib.byteCells (joinL (textsOf (l0.take i))) ++ [.int .u8 32] ++ Lib.strCells (rd_T31 l0 z).f1) W → Lib.IsBuilderF 75 5 w.heap.size w.heap.size (Lib.byteCells (joinL (textsOf (l0.take (i + 1))))) W) := ⟨fun W hW => Or.inr (by rw [hj, Lib.byteCells_append, Lib.byteCells_append, ← strCells_bytes]; exact hW)⟩
          clear hj hlen hss
          go_wp2_with (go_at_call 43; refine (writeByte w.heap.size w.heap.size _ 32 _ HIa.out (by rw [Lib.byteCells_length]; have := hjl.out; omega) (by have := HBq.out.size; exact this)).mono ?_)
          rintro e w1 ⟨rfl, h1, hb1, hk1⟩
          have HBw := Aside0.mk (HBq.out.trans hb1)
          have hg1 := hk1 _ _ hgb.out (by intro e; exact hne (Option.some.inj e).symm) (by intro c fz e; cases e)
          have hcz := (Lib.cell_of_heap (j := 1) hg1)
          clear HB HBq
          have HBq := HBw
          have HB := HBw
          go_wp2_with (go_at_call 44; refine (writeString w.heap.size w.heap.size _ (rd_T31 l0 z).f1 _ (Or.inr h1) (by rw [List.length_append, Lib.byteCells_length, List.length_cons, List.length_nil]; have := hjl.out; omega) HBq.out.size).mono ?_)
          rintro e w2 ⟨rfl, h2, hb2⟩
          have HB2 := Aside0.mk (HBq.out.trans hb2)
          clear HB hb2
          have HB := HB2
          go_wp2
          go_roundg k1
          case measure => omega
          case rel => exact ⟨i + 1, _, rfl, ⟨hw.out, by have := hz.out.2; omega⟩, ⟨hnext.out _ h2⟩, HB2⟩
        · have c2 : decide (0 < z) = false := decide_eq_false h0
          replace h0 := Int.not_lt.1 h0
          have hi0 : Aside0 (i = 0) := ⟨by have := hz.out.1; omega⟩
          have hjl : Aside0 ((rd_T31 l0 z).f1.size ≤ 70368744177664) := ⟨by rw [htk.out, hi0.out] at hlen; rw [show textsOf (l0.take 0) = [] from rfl, List.nil_append, join_first] at hlen; omega⟩
          have hnext : Aside0 (∀ W, Lib.BuilderAtF 75 5 w.heap.size w.heap.size (.pointer (some ⟨w.heap.size, 0, none⟩)) (Lib.byteCells (joinL (textsOf (l0.take i))) ++ Lib.strCells (rd_T31 l0 z).f1) W → Lib.IsBuilderF 75 5 w.heap.size w.heap.size (Lib.byteCells (joinL (textsOf (l0.take (i + 1))))) W) := ⟨fun W hW => Or.inr (by rw [htk.out]; rw [hi0.out] at hW ⊢; rw [show textsOf (l0.take 0) = [] from rfl, List.nil_append, join_first, ← strCells_bytes]; exact hW)⟩
          have hjz : Aside0 (Lib.byteCells (joinL (textsOf (l0.take i))) = []) := ⟨by rw [hi0.out]; rfl⟩
          clear hlen hss
          go_wp2_with (go_at_call 44; refine (writeString w.heap.size w.heap.size _ (rd_T31 l0 z).f1 _ HIa.out (by rw [hjz.out]; have := hjl.out; simp only [List.length_nil]; omega) HBq.out.size).mono ?_)
          rintro e w2 ⟨rfl, h2, hb2⟩
          have HB2 := Aside0.mk (HBq.out.trans hb2)
          clear HB hb2
          have HB := HB2
          go_wp2
          go_roundg k1
          case measure => omega
          case rel => exact ⟨i + 1, _, rfl, ⟨hw.out, by have := hz.out.2; omega⟩, ⟨hnext.out _ h2⟩, HB2⟩
  · rw [if_neg hn] at h; cases h
end Go.Proofs.YtaogoabnidbbpaaDoor.PText
