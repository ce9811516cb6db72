/- The law on Cover holds of every number, all letters and every cube: the cubes of some letters have just these, each once; texts come back. Conditions: none but that letters and the cube's numbers are bytes and that the list lies in memory. -/
import Derived.Test.YtpnocpfagbfboaaCubeFacts
import Derived.Test.YtpnocpfagbfboaaAid
namespace Go.Proofs.Ytpnocpfagbfboaa.PCube
open Go.RowKit Go.Proofs.YtpnocpfagbfboaaW.PrintWords Go.Proofs.YtpnocpfagbfboaaW.PrintLast Go.Proofs.YtpnocpfagbfboaaW.PrintMore Go.Proofs.Ytpnocpfagbfboaa.CubeNat Go.Proofs.YtpnocpfagbfboaaW.Aid
/-- The letters of N propositions among some. -/
def fl (N : Nat) (l : List Nat) : List Nat := l.filter fun x => decide (x < 2 ^ N)
def ic (l : List Nat) : List Int := l.map fun x : Nat => (x : Int)
theorem fl_snoc (N : Nat) (l : List Nat) (x : Nat) : fl N (l ++ [x]) = if x < 2 ^ N then fl N l ++ [x] else fl N l := by
  unfold fl
  rw [List.filter_append]
  by_cases h : x < 2 ^ N <;> simp [h]
theorem fl_len (N : Nat) (l : List Nat) : (fl N l).length ≤ l.length := List.length_filter_le _ _
theorem ic_at (l : List Nat) (n : Nat) (h : n < l.length) : rd (ic l) (n : Int) = ((l.getD n 0 : Nat) : Int) := by
  unfold rd ic
  rw [Int.toNat_natCast]
  simp [List.getD_eq_getElem?_getD, List.getElem?_map, List.getElem?_eq_getElem h]
theorem ic_snoc (l : List Nat) (x : Nat) : ic (l ++ [x]) = ic l ++ [(x : Int)] := by unfold ic; rw [List.map_append]; rfl
theorem make256 (w : World) : (Instr.makeSlice 62 (.int .i64 256) (.int .i64 256)).run Try.prog w = .ok (.slice (some ⟨w.heap.size, 0, none⟩) 256 256) (w.alloc (.cells zerosV 4)) := by kernel_rfl
set_option maxHeartbeats 8000000 in
set_option maxRecDepth 100000 in
theorem law_cover (a : Int) (wa : (Lit.int .i64 a).wf = true) (A : Option Addr) (cp : Nat) (ls : List Nat) (hls : ∀ x ∈ ls, x < 256) (c v : Nat) (hc : c < 256) (hv : v < 256) (w : World)
    (hr1 : Kd.C (Kd.int .u8) w A ls.length (ic ls)) (_hcp : ls.length ≤ cp) (hlen : ls.length ≤ 140737488351232) :
    Calls Try.prog 7 #[.int .i64 a, .slice A ls.length cp, .agg #[.int .u8 c, .int .u8 v]] w fun e w' => e = .returned (.bool true) ∧ Below w.heap.size w w' := by
  obtain ⟨N, hN, hpick⟩ := ppick a wa
  obtain ⟨m, hm⟩ : ∃ m, m = ls.length := ⟨_, rfl⟩
  rw [← hm] at hr1 hlen ⊢
  obtain ⟨M, hM⟩ : ∃ M : Nat, M = 2 ^ N := ⟨_, rfl⟩
  have hM8 : M ≤ 256 := by rw [hM]; exact Nat.pow_le_pow_right (n := 2) (i := N) (j := 8) (by decide) hN
  have eM : wrap64 ((2 : Int) ^ N) = (M : Int) := by
    have : ((2 : Int) ^ N) = ((2 ^ N : Nat) : Int) := by simp
    rw [this, ← hM]; unfold wrap64; omega
  have eM2 : IntKind.i64.wrap ((2 : Int) ^ N) = (M : Int) := by
    have : ((2 : Int) ^ N) = ((2 ^ N : Nat) : Int) := by simp
    rw [this, ← hM, IntKind.wrap_i64]; omega
  have HM := Aside0.mk hm
  have HMM := Aside0.mk hM
  have HR := Aside0.mk hr1
  have HLS := Aside0.mk hls
  have HPK := Aside0.mk hpick
  have hmk := make256
  clear hm hr1 hls hpick hM
  go_enter Try.func7, Try.ntmps7
  go_wp2_with (go_at_call 33; refine (rejoinderkit_Pick.calls a 9 N _ HPK.out).mono ?_; rintro e w1 ⟨rfl, hd⟩; have HD := Aside0.mk (below_step (below_alloc (Below.refl _ _) _) hd.below); have BK5 := Aside0.mk (blk_below (blk_new _ _) hd.below); clear hd)
  clear hmk
  obtain ⟨g5, hg5⟩ : ∃ g, g = w.heap.size := ⟨_, rfl⟩
  obtain ⟨g7, hg7⟩ : ∃ g, g = w1.heap.size := ⟨_, rfl⟩
  have HG7 : Aside0 (w.heap.size ≤ g7) := ⟨by rw [hg7]; exact HD.out.size⟩
  have BK7 : Aside0 ((w1.alloc (Obj.cells zerosV 4)).heap[g7]? = some (.cells (boolsV (setL (fl N (ls.take 0)))) 4 (0, 0))) := ⟨by rw [hg7, List.take_zero]; show _ = some (Obj.cells (boolsV (setL [])) _ _); rw [← zerosV_eq]; exact blk_new _ _⟩
  have BK5 := Aside0.mk (blk_alloc BK5.out (Obj.cells zerosV 4))
  have HB0 := Aside0.mk (below_alloc HD.out (Obj.cells zerosV 4))
  rw [← hg5] at BK5 ⊢
  rw [← hg7]
  have HG5 := Aside0.mk hg5
  clear hg5 hg7
  go_loopw [8, 9] (fun f i w' => ∃ n : Nat, n ≤ m ∧ i = .int .i64 n ∧ Aside0 (Kd.R (Kd.int .u8) 22 w' w.heap.size (fun _ => True) f (ic (fl N (ls.take n)))) ∧ Aside0 (w'.heap[g5]? = some (.cells #[.int .u8 c, .int .u8 v] 24 (0, 0))) ∧ Aside0 (w'.heap[g7]? = some (.cells (boolsV (setL (fl N (ls.take n)))) 4 (0, 0))) ∧ Aside0 (Below w.heap.size w w')) (fun _ i _ => m - (intOf i).toNat)
  case atStart => exact ⟨0, Nat.zero_le _, rfl, ⟨Kd.R_nil _ _ _ _ _⟩, BK5, BK7, HB0⟩
  case round =>
    obtain ⟨n, hn, rfl, HO, B5, B7, HB⟩ := hrel
    clear BK5 BK7 HB0
    by_cases hlt : n < m
    · have hlt2 : n < ls.length := by rw [← HM.out]; exact hlt
      obtain ⟨x, hx⟩ : ∃ x, x = ls.getD n 0 := ⟨_, rfl⟩
      have hx256 : x < 256 := by
        rw [hx, List.getD_eq_getElem?_getD, List.getElem?_eq_getElem hlt2]
        exact HLS.out _ (List.getElem_mem hlt2)
      have htk := take_next ls n hlt2
      rw [← hx] at htk
      have hr2 := HR.out
      obtain ⟨ad, rfl, hc0⟩ := Kd.at_int hr2 (n : Int) (by omega) (by omega)
      rw [ic_at ls n hlt2, ← hx, Int.toNat_natCast] at hc0
      have hc2 := pw_cell_below HB.out hc0
      have HC0 := Aside0.mk hc0
      have HT := Aside0.mk htk
      have hln : (fl N (ls.take n)).length ≤ m := by have := fl_len N (ls.take n); have := List.length_take_le n ls; omega
      have HLN := Aside0.mk hln
      have hnm : (n : Int) < (m : Int) := by omega
      have h0n : (0 : Int) ≤ n := by omega
      clear hx hr2 hlt2 htk hc0 hln
      by_cases hin : x < M
      · have hin2 : (x : Int) < (M : Int) := by omega
        have HF : Aside0 (fl N (ls.take (n + 1)) = fl N (ls.take n) ++ [x]) := ⟨by rw [HT.out, fl_snoc, if_pos (by rw [← HMM.out]; exact hin)]⟩
        have hcell : wr.cell? ⟨g7, x, none⟩ = some (.bool ((setL (fl N (ls.take n))).getD x false)) := by
          rw [blk_cell B7.out, boolsV_at _ _ (by rw [setL_len]; exact hx256)]
        have hfz := blk_frozen B7.out x
        go_wp2
        go_quiet (fail)
        go_wp2_with ((with_reducible refine gate_builtin (b := .append) (xs := #[.tmp 42, .tmp 47]) rfl ?_); at_builtin; refine Kd.R_append (Kd.int .u8) (w0 := w) w.heap.size rfl (.tmp 42) (.tmp 47) 41 22 (.int .u8 0) 1 rfl Try.underlying41 info22 rfl (by decide) (by omega) u8 (ic (fl N (ls.take n))) (x : Int) [.int .u8 x] (fun _ => True) (fun _ => False) rfl rfl ?aP (fun _ hk => hk.elim) ?aF ?aO ?aB ?aS ?aL ?_; (case aP => exact rfl); (case aB => exact pw_below_drewN HB.out _); (case aF => exact (fun _ _ => trivial)); (case aO => exact Kd.R_drewN HO.out _); (case aS => exact HB.out.size); (case aL => have := HLN.out; simp only [ic, List.length_map]; omega); intro v3 w3 ho hb hg hat; have B5' := Aside0.mk (blk_grown (blk_drewN B5.out nq) hg (Kd.R_ne HO.out B5.out (by decide))); have B7' := Aside0.mk (blk_grown (blk_drewN B7.out nq) hg (Kd.R_ne HO.out B7.out (by decide))); have HO' := Aside0.mk ho; have HB' := Aside0.mk hb; clear ho hb hg hat B5 B7 HO HB hcell hfz hc2; have hcell : w3.cell? ⟨g7, x, none⟩ = some (.bool ((setL (fl N (ls.take n))).getD x false)) := (by rw [blk_cell B7'.out, boolsV_at _ _ (by rw [setL_len]; exact hx256)]); have hfz := blk_frozen B7'.out x; have hc2 := pw_cell_below HB'.out HC0.out)
        go_roundw
        case rel =>
          refine ⟨n + 1, by omega, by go_num, ⟨?_⟩, ⟨?_⟩, ⟨?_⟩, ⟨?_⟩⟩
          · rw [HF.out, ic_snoc]
            exact Kd.R_set HO'.out B7'.out (by intro q hq; rcases List.mem_cons.1 hq with rfl | hq; decide; cases hq) x _
          · exact blk_far B5'.out (blk_ne B5'.out B7'.out (by decide)) _
          · rw [HF.out, setL_snoc, ← boolsV_set]
            exact blk_put B7'.out x _ rfl
          · exact below_set HB'.out HG7.out
        case measure => simp [intOf]; omega
      · have hin2 : ¬ (x : Int) < (M : Int) := by omega
        have hin3 : decide ((x : Int) < (M : Int)) = false := decide_eq_false hin2
        have HF : Aside0 (fl N (ls.take (n + 1)) = fl N (ls.take n)) := ⟨by rw [HT.out, fl_snoc, if_neg (by rw [← HMM.out]; exact hin)]⟩
        go_wp2
        go_quiet (fail)
        go_wp2
        go_roundw
        case rel => exact ⟨n + 1, by omega, by go_num, ⟨by rw [HF.out]; exact Kd.R_drewN HO.out _⟩, ⟨blk_drewN B5.out _⟩, ⟨by rw [HF.out]; exact blk_drewN B7.out _⟩, ⟨pw_below_drewN HB.out _⟩⟩
        case measure => simp [intOf]; omega
    · obtain rfl : n = m := by omega
      have hfull : ls.take n = ls := by rw [HM.out, List.take_length]
      rw [hfull] at HO B7
      have hfl : ∀ x ∈ fl N ls, x < 2 ^ N := by intro x hx; unfold fl at hx; simpa using (List.mem_filter.1 hx).2
      have h256 : 2 ^ N ≤ 256 := by rw [← HMM.out]; exact hM8
      have hb : ∀ x ∈ ic (fl N ls), 0 ≤ x ∧ x < 256 := by
        intro x hx
        obtain ⟨y, hy, rfl⟩ := List.mem_map.1 hx
        have := hfl y hy
        omega
      have hmap : (ic (fl N ls)).map Int.toNat = fl N ls := by
        unfold ic
        rw [List.map_map]
        conv => rhs; rw [← List.map_id (fl N ls)]
        exact List.map_congr_left fun x _ => by simp
      obtain ⟨P, hP⟩ : ∃ P, P = coverN (setL (fl N ls)) (2 ^ N) N 0 0 0 := ⟨_, rfl⟩
      have hcv : cube_Cover.f N (ic (fl N ls)) = some (P.map toS, 0) := by
        unfold cube_Cover.f
        rw [if_pos (by omega), hmap, Int.toNat_natCast, if_pos (by rw [List.all_eq_true]; exact fun x hx => decide_eq_true (hfl x hx)), hP]
      have hPlt : ∀ s ∈ P, s.1 < 256 ∧ s.2 < 256 := by rw [hP]; exact cover_lt N hN _ _ N 0 0 0 (by omega) (by decide) (by decide)
      have hPlen : P.length ≤ 256 := by
        have := cover_len (setL (fl N ls)) (2 ^ N) N 0 0 0
        rw [← hP] at this
        omega
      have hPm : ∀ l, l < 2 ^ N → many l P = if (setL (fl N ls)).getD l false = true then 1 else 0 := by
        intro l hl
        have := cover_many N hN (setL (fl N ls)) l hl N 0 0 (by omega) (by decide) (fun p _ h => by simp at h)
        rw [show 2 ^ 0 - 1 = 0 from rfl, ← hP, has_free, Bool.true_and] at this
        exact this
      obtain ⟨A8, c8, rfl, hl8, hc8⟩ := Kd.R_reads HO.out
      obtain ⟨il, hil⟩ : ∃ il, il = setL (fl N ls) := ⟨_, rfl⟩
      have hilen : il.length = 256 := by rw [hil]; exact setL_len _
      rw [← hil] at B7 hPm
      obtain ⟨q, hq⟩ : ∃ q, q = (ic (fl N ls)).length := ⟨_, rfl⟩
      have HCV := Aside0.mk (fun W hr => Cover_calls N A8 c8 (ic (fl N ls)) hb (P.map toS) 0 W hr (by rw [← hq] at hl8 ⊢; exact hl8) hcv)
      rw [← hq] at hc8 HCV ⊢
      have HC8 := Aside0.mk hc8
      have HPL := Aside0.mk hPlt
      have HPN := Aside0.mk hPlen
      have HPM := Aside0.mk hPm
      have HIL := Aside0.mk hilen
      clear hfull hfl hb hmap hcv hPlt hPlen hPm hil hilen hq hc8 hl8 hP HO
      go_wp2_with (go_at_call 28; refine (HCV.out _ HC8.out).mono ?_; rintro e w2 ⟨v2, rfl, hr, hb⟩; have B5' := Aside0.mk (blk_below B5.out hb); have B7' := Aside0.mk (blk_below B7.out hb); have HR2 := Aside0.mk (Kd.R_lower hr HB.out.size); have HB' := Aside0.mk (below_step HB.out hb); clear hr hb B5 B7 HB)
      obtain ⟨lp, hlp⟩ : ∃ lp, lp = P.length := ⟨_, rfl⟩
      have hlp8 : lp ≤ 256 := by rw [hlp]; exact HPN.out
      obtain ⟨AP, cP, rfl, hlP, hCP⟩ := Kd.R_reads HR2.out
      rw [List.length_map, ← hlp] at hCP hlP ⊢
      have HLP := Aside0.mk hlp
      have HCP := Aside0.mk hCP
      clear hlp hCP HR2 hlt hn
      go_loopw [12] (fun vv w' => ∃ l : Nat, l ≤ M ∧ vv = .int .i64 l ∧ Aside0 (Kd.C k24 w' AP lp (P.map toS)) ∧ Aside0 (w'.heap[g5]? = some (.cells #[.int .u8 c, .int .u8 v] 24 (0, 0))) ∧ Aside0 (w'.heap[g7]? = some (.cells (boolsV il) 4 (0, 0))) ∧ Aside0 (Below w.heap.size w w')) (fun vv _ => M - (intOf vv).toNat)
      case atStart => exact ⟨0, Nat.zero_le _, rfl, HCP, B5', B7', HB'⟩
      case round =>
        obtain ⟨l, hl, rfl, HC1, B51, B71, HB1⟩ := hrel
        clear HCP B5' B7' HB'
        obtain ⟨wo, hwo⟩ : ∃ wo : World, wo = wr := ⟨_, rfl⟩
        subst hwo
        by_cases hlM : l < M
        · have hl256 : (l : Int) % 256 = l := by omega
          go_wp2
          go_loopw [13, 14] (fun nn ii w' => ∃ t i : Nat, i ≤ lp ∧ t ≤ i ∧ nn = .int .i64 t ∧ ii = .int .i64 i ∧ Aside0 (t + many l (P.drop i) = many l P) ∧ Aside0 (Kd.C k24 w' AP lp (P.map toS)) ∧ Aside0 (w'.heap[g5]? = some (.cells #[.int .u8 c, .int .u8 v] 24 (0, 0))) ∧ Aside0 (w'.heap[g7]? = some (.cells (boolsV il) 4 (0, 0))) ∧ Aside0 (Below w.heap.size w w')) (fun _ ii _ => lp - (intOf ii).toNat)
          case atStart => exact ⟨0, 0, Nat.zero_le _, Nat.le_refl _, rfl, rfl, ⟨by rw [List.drop_zero, Nat.zero_add]⟩, HC1, B51, B71, HB1⟩
          case round =>
            obtain ⟨t, i, hi, hti, rfl, rfl, HM2, HC2, B52, B72, HB2⟩ := hrel
            clear HC1 B51 B71 HB1
            by_cases hil : i < lp
            · have hiP : i < P.length := by rw [← HLP.out]; exact hil
              obtain ⟨s, hs⟩ : ∃ s, s = P[i] := ⟨_, rfl⟩
              have hslt := HPL.out s (by rw [hs]; exact List.getElem_mem hiP)
              have hd : many l (P.drop i) = many l (P.drop (i + 1)) + if HasB s.1 s.2 l = true then 1 else 0 := by
                rw [List.drop_eq_getElem_cons hiP, ← hs]; unfold many; rw [List.countP_cons]
              have hrd : rd_T24 (P.map toS) (i : Int) = toS s := by
                unfold rd_T24
                rw [Int.toNat_natCast, hs]
                simp [hiP, List.getD_eq_getElem?_getD]
              have hc2 := HC2.out
              obtain ⟨ad, rfl, hx0, hx1⟩ := at_T24 hc2 (i : Int) (by omega) (by omega)
              rw [hrd, Int.toNat_natCast] at hx0 hx1
              obtain ⟨s1, s2⟩ := s
              simp only [toS] at hx0 hx1
              have HD2 := Aside0.mk hd
              have HH := Aside0.mk (phas s1 s2 l hslt.1 hslt.2 (by omega))
              have hiI : (i : Int) < (lp : Int) := by omega
              clear hd hs hrd hc2 hiP hslt
              generalize HasB s1 s2 l = h at HD2 HH
              cases h
              all_goals
                go_wp2_with (go_at_call 13; refine (cube_Has.calls s1 s2 l _ _ HH.out).mono ?_; rintro e w3 ⟨rfl, hb⟩)
                go_roundw
                case measure => simp [intOf]; omega
                case rel =>
                  first
                  | exact ⟨t, i + 1, by omega, by omega, rfl, by go_num, ⟨by have := HM2.out; have := HD2.out; simp at this; omega⟩, ⟨Kd.C_below HC2.out hb⟩, ⟨blk_below B52.out hb⟩, ⟨blk_below B72.out hb⟩, ⟨below_step HB2.out hb⟩⟩
                  | exact ⟨t + 1, i + 1, by omega, by omega, by go_num, by go_num, ⟨by have := HM2.out; have := HD2.out; simp at this; omega⟩, ⟨Kd.C_below HC2.out hb⟩, ⟨blk_below B52.out hb⟩, ⟨blk_below B72.out hb⟩, ⟨below_step HB2.out hb⟩⟩
            · obtain rfl : i = lp := by omega
              have hz : many l (P.drop i) = 0 := by rw [List.drop_of_length_le (by rw [← HLP.out]; exact Nat.le_refl _)]; rfl
              have htm : t = if il.getD l false = true then 1 else 0 := by
                have h1 := HM2.out
                have h2 := HPM.out l (by rw [← HMM.out]; exact hlM)
                omega
              have hin : wr.cell? ⟨g7, l, none⟩ = some (.bool (il.getD l false)) := by
                rw [blk_cell B72.out, boolsV_at _ _ (by rw [HIL.out]; omega)]
              have hl0 : (l : Int) < 256 := by omega
              generalize il.getD l false = b at htm hin
              clear hil hti hi hz HM2
              cases b
              all_goals
                simp only [Bool.false_eq_true, if_false, if_true] at htm
                subst htm
                go_wp2
                go_roundw
                case measure => simp [intOf]; omega
                case rel => exact ⟨l + 1, by omega, by go_num, HC2, B52, B72, HB2⟩
        · obtain rfl : l = M := by omega
          clear hlM hl
          have hchk := pcheck N c v hc hv
          obtain ⟨ck, hck⟩ : ∃ ck, ck = checkI N c v := ⟨_, rfl⟩
          rw [← hck] at hchk
          have HCK := Aside0.mk hchk
          have HCI := Aside0.mk hck
          have hz0 : wo.cell? ⟨g5, 0, none⟩ = some (.int .u8 c) := (blk_cell B51.out 0).trans rfl
          have hz1 : wo.cell? ⟨g5, 1, none⟩ = some (.int .u8 v) := (blk_cell B51.out 1).trans rfl
          clear hchk hck
          by_cases hok : ck = 0
          · subst hok
            have hk0 := HCI.out.symm
            obtain ⟨k1, hk1⟩ := (pletters hN hc hv hk0).rounds
            obtain ⟨k2, hk2⟩ := (pevery hN).rounds
            obtain ⟨k3, hk3⟩ := (pprint hN hc hv hk0).rounds
            obtain ⟨k4, hk4⟩ := (pparse hN hc hv hk0).rounds
            have hk5 := pcount hN hc hv hk0
            have hsome := letters_some (v := v) hN hc hk0
            obtain ⟨X, hX⟩ : ∃ X : List Int, X = (lettersN c v 0 (2 ^ N)).map (fun x : Nat => (x : Int)) := ⟨_, rfl⟩
            obtain ⟨Y, hY⟩ : ∃ Y : List Int, Y = (downN (2 ^ N)).map (fun x : Nat => (x : Int)) := ⟨_, rfl⟩
            have hXl : X.length = (lettersN c v 0 (2 ^ N)).length := by rw [hX, List.length_map]
            have h256 : 2 ^ N ≤ 256 := Nat.pow_le_pow_right (n := 2) (i := N) (j := 8) (by decide) hN
            have hYb : ∀ x ∈ Y, 0 ≤ x ∧ x < 256 := by
              intro x hx
              rw [hY] at hx
              obtain ⟨y, hy, rfl⟩ := List.mem_map.1 hx
              have := (down_mem _ _).1 hy
              omega
            have hYm : Y.map Int.toNat = downN (2 ^ N) := by
              rw [hY, List.map_map]
              conv => rhs; rw [← List.map_id (downN (2 ^ N))]
              exact List.map_congr_left fun x _ => by simp
            have hYc : cube_Cover.f N Y = some ([(⟨0, 0⟩ : S24)], 0) := by
              unfold cube_Cover.f
              rw [if_pos (by omega), hYm, Int.toNat_natCast, if_pos (by rw [List.all_eq_true]; exact fun x hx => decide_eq_true ((down_mem _ _).1 hx)), setL_down N hN]
              rfl
            rw [← hX] at hk1
            rw [← hY] at hk2
            rw [← hXl] at hk5 hsome
            obtain ⟨T, hT⟩ : ∃ T, T = strOfNums (textN c v N) := ⟨_, rfl⟩
            rw [← hT] at hk3 hk4
            obtain ⟨lx, hlx⟩ : ∃ lx, lx = X.length := ⟨_, rfl⟩
            rw [← hlx] at hk5 hsome
            have H1 := Aside0.mk hk1
            have H2 := Aside0.mk hk2
            have H3 := Aside0.mk hk3
            have H4 := Aside0.mk hk4
            have H5 := Aside0.mk hk5
            have H6 := Aside0.mk hYb
            have H7 := Aside0.mk hYc
            have H8 := Aside0.mk hlx
            have hsI : (0 : Int) < (lx : Int) := by omega
            clear hk0 hk1 hk2 hk3 hk4 hk5 hX hY hXl hYb hYm hYc hT hlx h256
            go_wp2_with fail
            refine (cube_Check.calls N c v 0 _ HCK.out).mono ?_
            rintro e w3 ⟨rfl, hb⟩
            have B53 := Aside0.mk (blk_below B51.out hb)
            have HB3 := Aside0.mk (below_step HB1.out hb)
            clear hz0 hz1 hb
            have hz0 : w3.cell? ⟨g5, 0, none⟩ = some (.int .u8 c) := (blk_cell B53.out 0).trans rfl
            have hz1 : w3.cell? ⟨g5, 1, none⟩ = some (.int .u8 v) := (blk_cell B53.out 1).trans rfl
            go_wp2_with fail
            refine (cube_Letters.calls k1 N c v X 0 _ H1.out).mono ?_
            rintro e w4 ⟨vx, rfl, hr, hb⟩
            have B54 := Aside0.mk (blk_below B53.out hb)
            obtain ⟨AX, cX, rfl, _, _⟩ := Kd.R_reads hr
            rw [← H8.out]
            have HB4 := Aside0.mk (below_step HB3.out hb)
            clear hz0 hz1 hb hr
            go_wp2_with fail
            refine (rejoinderlaw02_every.calls k2 N Y _ H2.out).mono ?_
            rintro e w5 ⟨vy, rfl, hr, hb⟩
            have B55 := Aside0.mk (blk_below B54.out hb)
            have HB5 := Aside0.mk (below_step HB4.out hb)
            obtain ⟨AY, cY, rfl, hlY, hCY⟩ := Kd.R_reads hr
            clear hb hr
            go_wp2_with fail
            refine (Cover_calls N AY cY Y H6.out [⟨0, 0⟩] 0 _ hCY hlY H7.out).mono ?_
            rintro e w6 ⟨vq, rfl, hr, hb⟩
            have B56 := Aside0.mk (blk_below B55.out hb)
            have HB6 := Aside0.mk (below_step HB5.out hb)
            have RQ6 := Aside0.mk (Kd.R_lower hr HB5.out.size)
            clear hb hr hCY hlY
            have hz0 : w6.cell? ⟨g5, 0, none⟩ = some (.int .u8 c) := (blk_cell B56.out 0).trans rfl
            have hz1 : w6.cell? ⟨g5, 1, none⟩ = some (.int .u8 v) := (blk_cell B56.out 1).trans rfl
            go_wp2_with fail
            refine (cube_Print.calls k3 N c v T 0 _ H3.out).mono ?_
            rintro e w7 ⟨rfl, hb⟩
            have B57 := Aside0.mk (blk_below B56.out hb)
            have HB7 := Aside0.mk (below_step HB6.out hb)
            have RQ7 := Aside0.mk (Kd.R_below RQ6.out hb)
            clear hz0 hz1 hb
            go_wp2_with fail
            refine (cube_Parse.calls k4 N T c v 0 _ H4.out).mono ?_
            rintro e w8 ⟨rfl, hb⟩
            have B58 := Aside0.mk (blk_below B57.out hb)
            have HB8 := Aside0.mk (below_step HB7.out hb)
            have RQ8 := Aside0.mk (Kd.R_below RQ7.out hb)
            clear hb
            have hz0 : w8.cell? ⟨g5, 0, none⟩ = some (.int .u8 c) := (blk_cell B58.out 0).trans rfl
            have hz1 : w8.cell? ⟨g5, 1, none⟩ = some (.int .u8 v) := (blk_cell B58.out 1).trans rfl
            have hs5 := blk_lt B58.out
            have hn5 := Nat.ne_of_lt (blk_lt B58.out)
            go_wp2_with fail
            refine (cube_Count.calls N c v lx 0 _ H5.out).mono ?_
            rintro e w9 ⟨rfl, hb⟩
            have B59 := Aside0.mk (blk_below (blk_alloc B58.out _) hb)
            have BD := Aside0.mk (blk_below (g := w8.heap.size) (o := .cells #[.int .u8 c, .int .u8 v] 24 (0, 0)) (blk_new _ _) hb)
            have HB9 := Aside0.mk (below_step (below_alloc HB8.out _) hb)
            have RQ9 := Aside0.mk (Kd.R_below (Kd.R_alloc RQ8.out _) hb)
            clear hz0 hz1 hb hs5 hn5
            have hz0 : w9.cell? ⟨g5, 0, none⟩ = some (.int .u8 c) := (blk_cell B59.out 0).trans rfl
            have hz1 : w9.cell? ⟨g5, 1, none⟩ = some (.int .u8 v) := (blk_cell B59.out 1).trans rfl
            have hy0 : w9.cell? ⟨w8.heap.size, 0, none⟩ = some (.int .u8 c) := (blk_cell BD.out 0).trans rfl
            have hy1 : w9.cell? ⟨w8.heap.size, 1, none⟩ = some (.int .u8 v) := (blk_cell BD.out 1).trans rfl
            obtain ⟨AQ, cQ, rfl, hlQ, hCQ⟩ := Kd.R_reads RQ9.out
            obtain ⟨ad, hAQ, hq0, hq1⟩ := at_T24 hCQ (0 : Int) (by decide) (by decide)
            subst hAQ
            have e0 : ad.add ((0 : Int).toNat * 2) = ad := Addr.add_zero' ad
            rw [e0] at hq0 hq1
            have hq2 : w9.cell? ad = some (.int .u8 0) := hq0
            have hq3 : w9.cell? ⟨ad.block, ad.off + 1, none⟩ = some (.int .u8 0) := hq1
            clear hq0 hq1 e0 hCQ RQ9 RQ8 RQ7 RQ6
            go_wp2
            go_ret
            exact ⟨rfl, HB9.out⟩
          · have hn0 : (ck == 0) = false := beq_eq_false_iff_ne.2 hok
            have hn1 : (ck != 0) = true := bne_iff_ne.2 hok
            go_wp2_with fail
            refine (cube_Check.calls N c v ck _ HCK.out).mono ?_
            rintro e w3 ⟨rfl, hb3⟩
            have B53 := Aside0.mk (blk_below B51.out hb3)
            have HB3 := Aside0.mk (below_step HB1.out hb3)
            clear hz0 hz1
            go_wp2_with fail
            refine (cube_Check.calls 0 0 0 0 _ (by decide +kernel)).mono ?_
            rintro e w4 ⟨rfl, hb4⟩
            have B54 := Aside0.mk (blk_below B53.out hb4)
            have HB4 := Aside0.mk (below_step HB3.out hb4)
            have hz0 : w4.cell? ⟨g5, 0, none⟩ = some (.int .u8 c) := (blk_cell B54.out 0).trans rfl
            have hz1 : w4.cell? ⟨g5, 1, none⟩ = some (.int .u8 v) := (blk_cell B54.out 1).trans rfl
            have hneg : cube_Check.f (-1) c v = some 2 := by rw [pcheck (-1) c v hc hv]; rfl
            have HNE := Aside0.mk hneg
            clear hneg
            go_wp2_with fail
            refine (cube_Check.calls (-1) c v 2 _ HNE.out).mono ?_
            rintro e w5 ⟨rfl, hb5⟩
            have HB5 := Aside0.mk (below_step HB4.out hb5)
            clear hz0 hz1
            go_wp2
            go_ret
            exact ⟨rfl, HB5.out⟩
end Go.Proofs.Ytpnocpfagbfboaa.PCube
