/- slices.Concat of lists of tokens: its call tells the lists' elements in turn, in new memory. Condition: below 2^44 elements in all. -/
import Derived.Test.YtgemencaeocmmaaPTermx0
import Derived.Lib.AppendZeros
namespace Go.Proofs.Ytgemencaeocmmaa.PTerm
open Go.RowKit Go.Proofs.YtgemencaeocmmaaW.PrintWords Go.Proofs.YtgemencaeocmmaaW.PrintLast Go.Proofs.YtgemencaeocmmaaW.PrintMore
set_option linter.unusedVariables false
set_option maxHeartbeats 2000000 in
/-- slices.Grow of nothing. -/
theorem grow_calls (n : Nat) (w : World) (hn : n ≤ 17592186044416) :
    Calls Try.prog 54 #[.slice none 0 0, .int .i64 n] w fun e w' => ∃ v0_ : Value, e = .returned v0_ ∧ Kd.R k50 50 w' w.heap.size (fun _ => True) v0_ [] ∧ Below w.heap.size w w' := by
  by_cases h0 : n = 0
  · subst h0
    have e : ((0 : Nat) : Int) = 0 := rfl
    rw [e]
    go_enter Try.func54, Try.ntmps54
    go_wp2
    go_ret
    exact ⟨_, rfl, Kd.R_nil _ _ _ _ _, Below.refl _ _⟩
  · have h1 : ¬ ((n : Int) < 0) := by omega
    have h2 : (n : Int) > 0 := by omega
    have h3 : wrap64 ((n : Int) - 0) = n := by unfold wrap64; omega
    obtain ⟨i0, hi, hzz⟩ := Option.map_eq_some_iff.1 info50
    simp only [Prod.mk.injEq] at hzz
    obtain ⟨hz0, hz1, hz2⟩ := hzz
    have hr := fun ty => Lib.run_append_nil_zeros (P := Try.prog) w 22 3 ty 50 i0 _ .i64 .i64 Try.underlying22 Try.underlying3 hi hz0 n (by omega) (by omega) (by omega) (by rw [hz2]; omega)
    have hge := grownCap_ge w n 0 50
    have hle : grownCap w n 0 50 ≤ maxLen := grownCap_le_maxLen w n 0 50 (by unfold maxLen; omega)
    generalize grownCap w n 0 50 = G at hr hge hle
    have HI := Aside0.mk hi
    clear hi hz0 hz1 hz2
    have HG := Aside0.mk hge
    have HL := Aside0.mk hle
    clear hge hle
    go_enter Try.func54, Try.ntmps54
    go_wp2_with (at_builtin; refine Lib.wpList_append_run _ rfl _ _ _ _ rfl _ _ rfl rfl _ _ (hr _) ?_)
    all_goals go_ret
    refine ⟨_, rfl, ⟨fun _ _ => trivial, [], ⟨rfl, .inr ⟨w.heap.size, G, _, rfl, Nat.le_refl _, heap_alloc_new w.drew _, Nat.zero_le _, HL.out, ?_, rfl⟩⟩, Reps.none _ _⟩, ?_⟩
    · have := HG.out
      simp only [Array.size_append, size_zeroCells, ← Nat.add_mul]
      show (n + (G - n)) * 2 = G * 2
      congr 1
      omega
    · exact below_alloc (below_drew1 (Below.refl _ _)) _
set_option maxHeartbeats 4000000 in
theorem concat_calls (A0 : Option Addr) (c0 : Nat) (l0 : List (List S50)) (w : World) (hr0 : Kd.C (Kd.slice 50 k50) w A0 l0.length l0) (hl : l0.length ≤ 1000000) (hs : l0.flatten.length ≤ 17592186044416) :
    Calls Try.prog 45 #[.slice A0 l0.length c0] w fun e w' => ∃ v0_ : Value, e = .returned v0_ ∧ Kd.R k50 50 w' w.heap.size (fun _ => True) v0_ l0.flatten ∧ Below w.heap.size w w' := by
  obtain ⟨n, hn⟩ : ∃ n, n = l0.length := ⟨_, rfl⟩
  rw [← hn] at hr0 hl ⊢
  have HR0 := Aside0.mk hr0
  have HN := Aside0.mk hn
  have HS := Aside0.mk hs
  clear hr0 hn hs
  have lens : ∀ j, ((l0.take j).flatten).length ≤ 17592186044416 := by
    intro j
    refine Nat.le_trans ?_ HS.out
    have : l0.flatten = (l0.take j).flatten ++ (l0.drop j).flatten := by rw [← List.flatten_append, List.take_append_drop]
    rw [this, List.length_append]; omega
  have step : ∀ j, j < n → (l0.take (j + 1)).flatten = (l0.take j).flatten ++ l0.getD j [] := by
    intro j hj
    rw [HN.out] at hj
    rw [List.take_succ_eq_append_getElem hj, List.flatten_append, List.getD_eq_getElem?_getD, List.getElem?_eq_getElem hj]
    simp
  have HLe := Aside0.mk lens
  have HSt := Aside0.mk step
  clear lens step
  go_enter Try.func45, Try.ntmps45
  go_wp2
  go_loopw [3, 11] (fun s i w' => ∃ j : Nat, j ≤ n ∧ i = .int .i64 j ∧ s = .int .i64 (((l0.take j).flatten).length : Nat) ∧ w' = w) (fun _ i _ => n - (intOf i).toNat)
  case atStart => exact ⟨0, Nat.zero_le _, rfl, rfl, rfl⟩
  case round =>
    obtain ⟨j, hj, rfl, rfl, hw⟩ := hrel
    subst wr
    by_cases hlt : j < n
    · obtain ⟨ad, cs, e1, hcl, ⟨A1, c1, rfl, hc1, hC1⟩, hcell⟩ := Kd.C_get HR0.out [] (j : Int) (by omega) (by omega)
      have hc := hcell 0 _ rfl
      cases e1
      rw [Int.toNat_natCast] at hc hC1 hc1
      have hc2 : w.cell? (ad.add (j * 1 + 0)) = some (.slice A1 (l0.getD j []).length c1) := hc
      rw [Nat.mul_one, Nat.add_zero] at hc2
      have g0 : (0 : Int) ≤ j := by omega
      have g1 : (j : Int) < n := by omega
      have hst := congrArg List.length (HSt.out j hlt)
      rw [List.length_append] at hst
      have hle := HLe.out (j + 1)
      rw [hst] at hle
      have Hst := Aside0.mk hst
      clear hst hc hcell hC1 hc1 hcl
      generalize (l0.getD j []).length = m at Hst hle hc2
      generalize ((l0.take j).flatten).length = s at Hst hle ⊢
      have g2 : ¬ ((s : Int) + (m : Int) < 0) := by omega
      have g3 : wrap64 ((s : Int) + (m : Int)) = (s : Int) + (m : Int) := by unfold wrap64; omega
      go_wp2
      go_roundw
      case rel => exact ⟨j + 1, by omega, by go_num, by rw [Hst.out]; go_num, by first | rfl | trivial⟩
      case measure => simp [intOf]; omega
    · obtain rfl : j = n := by omega
      have htot : (l0.take j).flatten = l0.flatten := by rw [List.take_of_length_le (by have := HN.out; omega)]
      rw [htot]
      have HS1 := Aside0.mk HS.out
      generalize hq : l0.flatten.length = q at HS1 ⊢
      clear htot hj hlt
      go_wp2_with (go_at_call 54; refine (grow_calls q _ HS1.out).mono ?_; rintro e w1 ⟨v0, rfl, ho, hb⟩; have HO := Aside0.mk ho; have HB := Aside0.mk hb; clear ho hb)
      go_loopw [6, 27] (fun v i w' => ∃ k : Nat, k ≤ j ∧ i = .int .i64 k ∧ Aside0 (Kd.R k50 50 w' w.heap.size (fun _ => True) v (l0.take k).flatten) ∧ Aside0 (Below w.heap.size w w')) (fun _ i _ => j - (intOf i).toNat)
      case atStart => exact ⟨0, Nat.zero_le _, rfl, ⟨HO.out⟩, ⟨HB.out⟩⟩
      case round =>
        clear HO HB
        obtain ⟨k, hk, rfl, HO, HB⟩ := hrel
        by_cases hlt : k < j
        · obtain ⟨ad, cs, e1, hcl, ⟨A1, c1, rfl, hc1, hC1⟩, hcell⟩ := Kd.C_get HR0.out [] (k : Int) (by omega) (by omega)
          have hc := hcell 0 _ rfl
          cases e1
          rw [Int.toNat_natCast] at hc hC1 hc1
          have hc2 : wr.cell? (ad.add (k * 1 + 0)) = some (.slice A1 (l0.getD k []).length c1) := pw_cell_below HB.out hc
          rw [Nat.mul_one, Nat.add_zero] at hc2
          have g0 : (0 : Int) ≤ k := by omega
          have g1 : (k : Int) < j := by omega
          have HT := Aside0.mk (HSt.out k hlt)
          have hle := HLe.out (k + 1)
          rw [HT.out, List.length_append] at hle
          have HLL := Aside0.mk hle
          have HC := Aside0.mk (Kd.C_below hC1 HB.out)
          clear hle hc hcell hC1 hc1 hcl
          generalize l0.getD k [] = y at HT HLL HC hc2
          generalize hp : (l0.take k).flatten = p at HT HLL HO
          clear hp
          obtain ⟨m, hm⟩ : ∃ m, m = y.length := ⟨_, rfl⟩
          rw [← hm] at HC HLL hc2
          clear hm
          go_wp2_with ((with_reducible refine gate_builtin (b := .append) (xs := #[.tmp 31, .tmp 32]) rfl ?_); at_builtin; refine Kd.R_append_rows k50 (w0 := w) w.heap.size rfl (.tmp 31) (.tmp 32) 22 50 (.agg #[(.int .u8 0), (.int .u8 0)]) 2 rfl Try.underlying22 info50 rfl (by decide) (by omega) _ p y _ _ _ (fun _ => True) (fun _ => False) rfl rfl ?aO ?aR (fun _ _ h => h) (fun _ h => h.elim) ?aF ?aB ?aS ?aL ?_; (case aR => exact HC.out); (case aB => exact HB.out); (case aF => exact (fun _ _ => trivial)); (case aO => exact HO.out); (case aS => exact HB.out.size); (case aL => have := HLL.out; omega); intro v3 w3 ho hb hg hat; have HO3 := Aside0.mk ho; have HB3 := Aside0.mk hb; clear ho hb hg hat)
          go_roundw
          case rel => exact ⟨k + 1, by omega, by go_num, ⟨by rw [HT.out]; exact HO3.out⟩, ⟨HB3.out⟩⟩
          case measure => simp [intOf]; omega
        · obtain rfl : k = j := by omega
          have htot : (l0.take k).flatten = l0.flatten := by rw [List.take_of_length_le (by have := HN.out; omega)]
          rw [htot] at HO
          go_wp2
          go_ret
          exact ⟨_, rfl, HO.out, HB.out⟩
/-- slices.Concat as a Lean function: nothing where the lists are too long for any machine. -/
def slices_Concat.f (l0 : List (List S50)) : Option (List S50) := if l0.length ≤ 1000000 ∧ l0.flatten.length ≤ 17592186044416 then some l0.flatten else none
theorem slices_Concat.calls (A0 : Option Addr) (c0 : Nat) (l0 : List (List S50)) (r : List S50) (w : World) (hr0 : Kd.C (Kd.slice 50 k50) w A0 l0.length l0) (hc0 : l0.length ≤ c0) (h : slices_Concat.f l0 = some r) :
    Calls Try.prog 45 #[.slice A0 l0.length c0] w fun e w' => ∃ v0_ : Value, e = .returned v0_ ∧ Kd.R k50 50 w' w.heap.size (fun _ => True) v0_ r ∧ Below w.heap.size w w' := by
  unfold slices_Concat.f at h
  split at h
  case isFalse => cases h
  case isTrue hh =>
    obtain rfl := Option.some.inj h
    exact concat_calls A0 c0 l0 w hr0 hh.1 hh.2
end Go.Proofs.Ytgemencaeocmmaa.PTerm
