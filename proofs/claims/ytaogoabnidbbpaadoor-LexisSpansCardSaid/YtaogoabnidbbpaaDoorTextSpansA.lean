/- The law on places walks through any text: every test passes. -/
import Derived.Test.YtaogoabnidbbpaaDoorTextSpans
import Derived.Test.YtaogoabnidbbpaaDoorTextAwake
import Derived.Deep.RegionHeld3
namespace Go.Proofs.YtaogoabnidbbpaaDoor.PText
open Go.RowKit Go.Proofs.YtaogoabnidbbpaaDoorW.PrintWords Go.Proofs.YtaogoabnidbbpaaDoorW.PrintLast Go.Proofs.YtaogoabnidbbpaaDoorW.PrintMore Go.Proofs.YtaogoabnidbbpaaDoorW.Aid
set_option linter.unusedVariables false
theorem words_cases (l : Bs) : (∃ er at_ : Int, wordsL l = ([], er, at_) ∧ er ≠ 0) ∨ (∃ ws, wordsL l = (ws, 0, 0) ∧ lexF l.length l 0 = .ok ws ∧ l.length ≤ 4096) := by
  unfold wordsL
  by_cases h : l.length ≤ 4096
  · rw [if_pos h]
    cases hl : lexF l.length l 0 with
    | error e => exact .inl ⟨140, e, rfl, by decide⟩
    | ok ws => exact .inr ⟨ws, by show ([] ++ ws, (0 : Int), (0 : Int)) = _; rw [List.nil_append], rfl, h⟩
  · rw [if_neg h]
    exact .inl ⟨3, -1, rfl, by decide⟩
theorem rd_get (ws : List Wd) (j : Nat) (h : j < ws.length) : rd_T31 ws (j : Int) = ws[j] := by
  unfold rd_T31
  rw [Int.toNat_natCast]
  simp [List.getD_eq_getElem?_getD, h]
theorem extract_mid (s : ByteArray) (a p : Nat) (h : p ≤ s.size) (ha : a ≤ p) : (s.extract a p).data.toList = (s.data.toList.drop a).take (p - a) := by
  rw [ByteArray.data_extract, Array.toList_extract]
theorem blank_ev (s : ByteArray) (hs : s.size ≤ 9223372036854775806) : Ev (fun k => rejoinderlaw04_blank.f k s) (blankL s.data.toList) := by
  refine Ev.congr (f := fun k => rejoinderlaw04_blank.l0 k s ((0 : Nat) : Int)) (fun k => rfl) ?_
  have := blank_loop s hs s.size 0 (by omega)
  exact this
/-- What the tests of a word come to. -/
theorem word_tests (a0 t0 : ByteArray) (a p : Nat) (za z2 : Int) (hl : a0.size ≤ 4096) (ha : za = (a : Int)) (h2 : z2 = (p : Int)) (hap : a ≤ p) (hp : p + t0.size ≤ a0.size)
    (hbl : blankL ((a0.data.toList.drop a).take (p - a)) = true) (htx : (a0.data.toList.drop p).take t0.size = t0.data.toList) :
    wrap64 (z2 + (t0.size : Int)) = ((p + t0.size : Nat) : Int) ∧ decide (z2 < za) = false ∧ decide ((a0.size : Int) < wrap64 (z2 + (t0.size : Int))) = false ∧ (0 ≤ z2) ∧ (z2 ≤ wrap64 (z2 + (t0.size : Int))) ∧ (wrap64 (z2 + (t0.size : Int)) ≤ (a0.size : Int)) ∧
    (a0.extract z2.toNat (wrap64 (z2 + (t0.size : Int))).toNat).toList = t0.toList ∧ 0 ≤ za ∧ za ≤ z2 ∧ z2 ≤ (a0.size : Int) ∧ ∃ kb, rejoinderlaw04_blank.f kb (a0.extract za.toNat z2.toNat) = some true := by
  have hw : wrap64 (z2 + (t0.size : Int)) = ((p + t0.size : Nat) : Int) := by unfold wrap64; omega
  refine ⟨hw, decide_eq_false (by omega), ?_, by omega, ?_, ?_, ?_, by omega, by omega, by omega, ?_⟩
  · rw [hw]; exact decide_eq_false (by omega)
  · rw [hw]; omega
  · rw [hw]; omega
  · rw [hw, h2, Int.toNat_natCast, Int.toNat_natCast, ByteArray.toList_eq, ByteArray.toList_eq, extract_mid _ _ _ hp (by omega), show p + t0.size - p = t0.size by omega]
    exact htx
  · rw [ha, h2, Int.toNat_natCast, Int.toNat_natCast]
    have he := extract_mid a0 a p (by omega) hap
    have hb := blank_ev (a0.extract a p) (by rw [← size_eq, he, List.length_take]; have := size_eq a0; omega)
    rw [he, hbl] at hb
    exact hb.rounds
theorem spans_end (a0 : ByteArray) (a : Nat) (za : Int) (hl : a0.size ≤ 4096) (hza : za = (a : Int)) (h : Spans a0.data.toList a []) : 0 ≤ za ∧ za ≤ (a0.size : Int) ∧ ∃ kb, rejoinderlaw04_blank.f kb (a0.extract za.toNat a0.size) = some true := by
  obtain ⟨h1, h2⟩ := h
  have hs := size_eq a0
  refine ⟨by omega, by omega, ?_⟩
  rw [hza, Int.toNat_natCast]
  have he := extract_mid a0 a a0.size (Nat.le_refl _) (by omega)
  rw [List.take_of_length_le (by rw [List.length_drop]; omega)] at he
  have hb := blank_ev (a0.extract a a0.size) (by rw [← size_eq, he, List.length_drop]; omega)
  rw [he, h2] at hb
  exact hb.rounds
theorem join_le (ws : List Wd) : (joinL (textsOf ws)).length ≤ (tailJ ws).length := by
  cases ws with
  | nil => exact Nat.le_refl _
  | cons w ws =>
    rw [join_tail]
    show _ ≤ (32 :: (w.f1.data.toList ++ tailJ ws)).length
    rw [List.length_cons]
    omega
/-- The text of the words, read again. -/
theorem again (a0 : ByteArray) (ws : List Wd) (hl : a0.size ≤ 4096) (hs : Spans a0.data.toList 0 ws) (hg : ∀ w ∈ ws, Good w) :
    lexis_Join.f ws = some (bytesB (joinL (textsOf ws))) ∧ ((bytesB (joinL (textsOf ws))).size ≤ 4096 → ∃ km ms, lexis_Words.f km (bytesB (joinL (textsOf ws))) = some (ms, 0, 0) ∧ ms.map key = ws.map key) := by
  have h1 := spans_len a0.data.toList ws 0 (Nat.zero_le _) hg hs
  have h2 := join_le ws
  have h3 := size_eq a0
  refine ⟨by unfold lexis_Join.f; rw [if_pos (by omega)], fun h4 => ?_⟩
  rw [size_bytesB] at h4
  obtain ⟨ms, hm, hk⟩ := join_again ws hg (joinL (textsOf ws)).length (Nat.le_refl _)
  have h5 := words_ev (bytesB (joinL (textsOf ws)))
  rw [show (bytesB (joinL (textsOf ws))).data.toList = joinL (textsOf ws) from rfl] at h5
  have h6 : wordsL (joinL (textsOf ws)) = (ms, 0, 0) := by
    unfold wordsL
    rw [if_pos h4, hm]
    show ([] ++ ms, (0 : Int), (0 : Int)) = _
    rw [List.nil_append]
  rw [h6] at h5
  obtain ⟨km, hkm⟩ := h5.rounds
  exact ⟨km, ms, hkm, hk⟩
theorem keys_at (ms ws : List Wd) (h : ms.map key = ws.map key) (z : Int) : (rd_T31 ms z).f0 = (rd_T31 ws z).f0 ∧ (rd_T31 ms z).f1 = (rd_T31 ws z).f1 := by
  have h1 : ∀ (l : List Wd), key (l.getD z.toNat z31) = (l.map key).getD z.toNat (key z31) := by
    intro l
    rw [List.getD_eq_getElem?_getD, List.getD_eq_getElem?_getD, List.getElem?_map]
    cases l[z.toNat]? <;> rfl
  have h2 : key (rd_T31 ms z) = key (rd_T31 ws z) := by
    unfold rd_T31
    rw [h1, h1, h]
  exact ⟨congrArg Prod.fst h2, congrArg Prod.snd h2⟩
set_option maxHeartbeats 4000000 in
set_option maxRecDepth 100000 in
theorem law_spans_bad (a0 : ByteArray) (w : World) (HT : Aside0 (Laid w)) (k : Nat) (er at_ : Int) (hk : lexis_Words.f k a0 = some ([], er, at_)) (hne : er ≠ 0) :
    Calls Tryd.prog 3 #[.string a0] w fun e w' => e = .returned (.bool true) ∧ Below w.heap.size w w' := by
  have HB := Aside0.mk (Below.refl w.heap.size w)
  have c1 : (er == 0) = false := beq_eq_false_iff_ne.2 hne
  have HK := Aside0.mk hk
  clear hk
  go_enter Tryd.func3, Tryd.ntmps3
  go_wp2_with fail
  refine (law04_awake w HT).mono ?_
  rintro e w1 ⟨rfl, hb⟩
  have nb_ := Aside0.mk (below_step HB.out hb)
  clear HB hb
  have HB := nb_
  clear nb_
  go_wp2_with fail
  refine (lexis_Words.calls k a0 _ _ _ _ HK.out).mono ?_
  rintro e w2 ⟨v, rfl, hr, hb⟩
  have nb_ := Aside0.mk (below_step HB.out hb)
  obtain ⟨A, c, rfl⟩ := Kd.R_slice hr
  clear HB hb hr
  have HB := nb_
  clear nb_
  go_wp2_with fail
  go_ret
  exact ⟨by simp, by repeat (first | (with_reducible first | exact HB.out | apply below_alloc | apply pw_below_drewN | apply below_drew1) | exact HB.out)⟩
set_option maxHeartbeats 8000000 in
set_option maxRecDepth 100000 in
theorem law_spans_good (a0 : ByteArray) (w : World) (HT : Aside0 (Laid w)) (k : Nat) (ws : List Wd) (hk : lexis_Words.f k a0 = some (ws, 0, 0)) (hlex : lexF a0.data.toList.length a0.data.toList 0 = .ok ws) (hlen : a0.data.toList.length ≤ 4096) :
    Calls Tryd.prog 3 #[.string a0] w fun e w' => e = .returned (.bool true) ∧ Below w.heap.size w w' := by
  have hu31 := Tryd.underlying31
  have HB := Aside0.mk (Below.refl w.heap.size w)
  have HK := Aside0.mk hk
  have HS := Aside0.mk (lex_spans a0.data.toList a0.data.toList.length 0 0 ws (Nat.le_refl _) (Nat.zero_le _) (by omega) rfl (by simpa using hlex))
  have HG := Aside0.mk (lex_good _ _ _ _ hlex)
  have hsz := size_eq a0
  have HL : Aside0 (a0.size ≤ 4096) := ⟨by omega⟩
  clear hk hlex hlen hsz
  go_enter Tryd.func3, Tryd.ntmps3
  go_wp2_with fail
  refine (law04_awake w HT).mono ?_
  rintro e w1 ⟨rfl, hb⟩
  have nb_ := Aside0.mk (below_step HB.out hb)
  clear HB hb
  have HB := nb_
  clear nb_
  go_wp2_with fail
  refine (lexis_Words.calls k a0 _ _ _ _ HK.out).mono ?_
  rintro e w2 ⟨v, rfl, hr, hb⟩
  have nb_ := Aside0.mk (below_step HB.out hb)
  obtain ⟨A, c, ev, hc0, hC0⟩ := Kd.R_reads hr
  cases ev
  have HC := Aside0.mk hC0
  have Hc := Aside0.mk hc0
  clear HB hb hr hC0 hc0
  have HB := nb_
  clear nb_ HK
  go_wp2_with fail
  obtain ⟨WS, hWS⟩ : ∃ WS, WS = w2.alloc (Obj.cells #[.int .i64 0, .int .i64 0] 26 (0, 0)) := ⟨_, rfl⟩
  have nb_ : Below w.heap.size w WS := by rw [hWS]; exact below_alloc HB.out _
  have nc_ : Kd.C k31 WS A ws.length ws := by rw [hWS]; exact Kd.C_alloc HC.out _
  clear HB HC
  have HB := Aside0.mk nb_
  have HC := Aside0.mk nc_
  rw [← hWS]
  clear hWS nb_ nc_
  go_loopg [6, 7] ws.length (fun kq v6 v7 w' => ∃ (j a : Nat) (zj za : Int), v6 = .int .i64 za ∧ v7 = .int .i64 zj ∧ Aside0 (zj = (j : Int) ∧ za = (a : Int) ∧ j + kq = ws.length ∧ a ≤ 4096) ∧ Aside0 (Spans a0.data.toList a (ws.drop j)) ∧ Aside0 (Below WS.heap.size WS w'))
  case atStart => exact ⟨0, 0, 0, 0, rfl, rfl, ⟨rfl, rfl, by omega, by omega⟩, ⟨HS.out⟩, ⟨Below.refl _ _⟩⟩
  case round =>
    obtain ⟨j, a, zj, za, rfl, rfl, hz, hs, HW⟩ := hrel
    have HBr := Aside0.mk (below_step HB.out HW.out)
    cases gk with
    | zero =>
      have hje : j = ws.length := by have := hz.out.2.2.1; omega
      have c1 : decide (zj < (ws.length : Int)) = false := decide_eq_false (by rw [hz.out.1]; omega)
      have hs1 := hs.out
      rw [hje, List.drop_length] at hs1
      obtain ⟨g1, g2, kb, hkb⟩ := spans_end a0 a za HL.out hz.out.2.1 hs1
      obtain ⟨hjn, hag⟩ := again a0 ws HL.out HS.out HG.out
      obtain ⟨tt, htt⟩ : ∃ tt, tt = bytesB (joinL (textsOf ws)) := ⟨_, rfl⟩
      rw [← htt] at hjn hag
      have FK := Aside0.mk hkb
      have FJ := Aside0.mk hjn
      have FA := Aside0.mk hag
      have nC := Aside0.mk (Kd.C_below (d := k31) (A := A) (n := ws.length) (xs := ws) HC.out HW.out)
      have g3 := eq_true g1
      have g4 := eq_true g2
      clear hs1 hkb hjn hag htt HB HC HW hs HS HG g1 g2 hje
      have HB := HBr
      have HC := nC
      clear nC HBr
      go_wp2_with fail
      refine (rejoinderlaw04_blank.calls kb _ true _ FK.out).mono ?_
      rintro e w' ⟨rfl, ⟨nd, rfl⟩⟩
      go_wp2_with fail
      refine (lexis_Join.calls A c ws tt _ (by repeat (first | exact HC.out | (with_reducible refine Kd.C_drewN ?_ _))) Hc.out FJ.out).mono ?_
      rintro e w4 ⟨rfl, hb⟩
      have nb_ := Aside0.mk (below_step (by repeat (first | (with_reducible first | exact HB.out | apply below_alloc | apply pw_below_drewN | apply below_drew1) | exact HB.out)) hb)
      have nc_ := Aside0.mk (Kd.C_below (d := k31) (A := A) (n := ws.length) (xs := ws) (by repeat (first | exact HC.out | (with_reducible refine Kd.C_drewN ?_ _))) hb)
      clear HB HC hb
      have HB := nb_
      have HC := nc_
      clear nb_ nc_ c1 g3 g4
      by_cases h4 : tt.size ≤ 4096
      · obtain ⟨km, ms, hkm, hkeys⟩ := FA.out h4
        have FM := Aside0.mk hkm
        have FY := Aside0.mk hkeys
        have hml : ms.length = ws.length := by have := congrArg List.length hkeys; rw [List.length_map, List.length_map] at this; exact this
        have FL := Aside0.mk hml
        have c2 : decide ((4096 : Int) < (tt.size : Int)) = false := decide_eq_false (by omega)
        clear hkm hkeys FA
        go_wp2_with fail
        refine (lexis_Words.calls km tt _ _ _ _ FM.out).mono ?_
        rintro e w5 ⟨vm, rfl, hr, hb⟩
        have nb_ := Aside0.mk (below_step HB.out hb)
        have nc_ := Aside0.mk (Kd.C_below (d := k31) (A := A) (n := ws.length) (xs := ws) HC.out hb)
        obtain ⟨AM, cm, ev, hcm, hCM⟩ := Kd.R_reads hr
        cases ev
        rw [hml] at hCM
        have HM := Aside0.mk hCM
        clear HB HC hb hr hCM hcm
        have HB := nb_
        have HC := nc_
        clear nb_ nc_
        go_wp2_with fail
        obtain ⟨WT, hWT⟩ : ∃ WT, WT = w5.alloc (Obj.cells #[.int .i64 0, .int .i64 0] 26 (0, 0)) := ⟨_, rfl⟩
        have nb_ : Below w.heap.size w WT := by rw [hWT]; exact below_alloc HB.out _
        have nc_ : Kd.C k31 WT A ws.length ws := by rw [hWT]; exact Kd.C_alloc HC.out _
        have nd_ : Kd.C k31 WT AM ws.length ms := by rw [hWT]; exact Kd.C_alloc HM.out _
        clear HB HC HM
        have HB := Aside0.mk nb_
        have HC := Aside0.mk nc_
        have HM := Aside0.mk nd_
        rw [← hWT]
        clear hWT nb_ nc_ nd_ hml c2 h4 FK FJ hz
        go_loopg [14] ws.length (fun kq v14 w' => ∃ (i : Nat) (zi : Int), v14 = .int .i64 zi ∧ Aside0 (zi = (i : Int) ∧ i + kq = ws.length) ∧ Aside0 (Below WT.heap.size WT w'))
        case atStart => exact ⟨0, 0, rfl, ⟨rfl, by omega⟩, ⟨Below.refl _ _⟩⟩
        case round =>
          obtain ⟨i, zi, rfl, hz, HW⟩ := hrel
          cases gk with
          | zero =>
            have c1 : decide (zi < (ws.length : Int)) = false := decide_eq_false (by rw [hz.out.1]; have := hz.out.2; omega)
            have HBr := Aside0.mk (below_step HB.out HW.out)
            go_wp2_with fail
            go_ret
            exact ⟨rfl, HBr.out⟩
          | succ k1 =>
            have p157 : 0 ≤ zi := by rw [hz.out.1]; omega
            have q157 : zi < (ws.length : Int) := by rw [hz.out.1]; have := hz.out.2; omega
            have c1 : decide (zi < (ws.length : Int)) = true := decide_eq_true q157
            obtain ⟨ad, ead, hx0, hx1, hx2⟩ := at_T31 HC.out zi p157 q157
            cases ead
            obtain ⟨am, eam, hy0, hy1, hy2⟩ := at_T31 HM.out zi p157 q157
            cases eam
            obtain ⟨hk0, hk1⟩ := keys_at ms ws FY.out zi
            rw [hk0] at hy0
            rw [hk1] at hy1
            obtain ⟨s0, hs0⟩ : ∃ s0, s0 = (rd_T31 ws zi).f0 := ⟨_, rfl⟩
            obtain ⟨t0, ht0⟩ : ∃ t0, t0 = (rd_T31 ws zi).f1 := ⟨_, rfl⟩
            rw [← hs0] at hx0 hy0
            rw [← ht0] at hx1 hy1
            replace hx0 : wr.cell? (ad.add (zi.toNat * 3)) = some (.int .u8 s0) := (HW.out.cell (World.block_lt_of_cell? WT _ hx0)).trans hx0
            replace hx1 : wr.cell? ⟨(ad.add (zi.toNat * 3)).block, (ad.add (zi.toNat * 3)).off + 1, none⟩ = some (.string t0) := (HW.out.cell (World.block_lt_of_cell? WT _ hx1)).trans hx1
            replace hy0 : wr.cell? (am.add (zi.toNat * 3)) = some (.int .u8 s0) := (HW.out.cell (World.block_lt_of_cell? WT _ hy0)).trans hy0
            replace hy1 : wr.cell? ⟨(am.add (zi.toNat * 3)).block, (am.add (zi.toNat * 3)).off + 1, none⟩ = some (.string t0) := (HW.out.cell (World.block_lt_of_cell? WT _ hy1)).trans hy1
            clear hx2 hy2 hk0 hk1 hs0 ht0
            have hww : Aside0 (wrap64 (zi + 1) = ((i + 1 : Nat) : Int)) := ⟨by have h1 := HC.out.2.1; have h2 := hz.out.1; have h3 := hz.out.2; unfold wrap64; omega⟩
            replace p157 := eq_true p157
            replace q157 := eq_true q157
            go_wp2_with fail
            go_region_held3 (fun w' => w'.cell? (ad.add (zi.toNat * 3)) = some (.int .u8 s0) ∧ w'.cell? ⟨(ad.add (zi.toNat * 3)).block, (ad.add (zi.toNat * 3)).off + 1, none⟩ = some (.string t0) ∧ w'.cell? (am.add (zi.toNat * 3)) = some (.int .u8 s0) ∧ w'.cell? ⟨(am.add (zi.toNat * 3)).block, (am.add (zi.toNat * 3)).off + 1, none⟩ = some (.string t0)) (go_keep) (fail)
            go_wp2_with fail
            go_roundg k1
            case measure => omega
            case rel => exact ⟨i + 1, _, rfl, ⟨hww.out, by have := hz.out.2; omega⟩, ⟨by repeat (first | exact HW.out | apply pw_below_drewN | apply below_drew1)⟩⟩
      · have c2 : decide ((4096 : Int) < (tt.size : Int)) = true := decide_eq_true (by omega)
        go_wp2_with fail
        go_ret
        exact ⟨rfl, by repeat (first | (with_reducible first | exact HB.out | apply below_alloc | apply pw_below_drewN | apply below_drew1) | exact HB.out)⟩
    | succ k1 =>
      have hj : j < ws.length := by have := hz.out.2.2.1; omega
      have p157 : 0 ≤ zj := by rw [hz.out.1]; omega
      have q157 : zj < (ws.length : Int) := by rw [hz.out.1]; omega
      have c1 : decide (zj < (ws.length : Int)) = true := decide_eq_true q157
      obtain ⟨ad, ead, hx0, hx1, hx2⟩ := at_T31 HC.out zj p157 q157
      cases ead
      have hrd := rd_get ws j hj
      rw [← hz.out.1] at hrd
      have hdj := List.drop_eq_getElem_cons hj
      rw [← hrd] at hdj
      have hs1 := hs.out
      rw [hdj] at hs1
      obtain ⟨p, hp2, hap, hpl, hbl, htx, hso, hnx⟩ := hs1
      obtain ⟨x, hx⟩ : ∃ x, x = rd_T31 ws zj := ⟨_, rfl⟩
      rw [← hx] at hx0 hx1 hx2 hp2 hpl htx hso hnx
      obtain ⟨s0, t0, z2⟩ := x
      replace hx0 : wr.cell? (ad.add (zj.toNat * 3)) = some (.int .u8 s0) := (HW.out.cell (World.block_lt_of_cell? WS _ hx0)).trans hx0
      replace hx1 : wr.cell? ⟨(ad.add (zj.toNat * 3)).block, (ad.add (zj.toNat * 3)).off + 1, none⟩ = some (.string t0) := (HW.out.cell (World.block_lt_of_cell? WS _ hx1)).trans hx1
      replace hx2 : wr.cell? ⟨(ad.add (zj.toNat * 3)).block, (ad.add (zj.toNat * 3)).off + 2, none⟩ = some (.int .i64 z2) := (HW.out.cell (World.block_lt_of_cell? WS _ hx2)).trans hx2
      have FZ : Aside0 (z2 = (p : Int) ∧ a ≤ p ∧ p + t0.size ≤ a0.size) := ⟨hp2, hap, by have := size_eq a0; rw [this] at hpl; exact hpl⟩
      have FB := Aside0.mk hbl
      have FT := Aside0.mk htx
      have FN := Aside0.mk hnx
      obtain ⟨ks, hks⟩ := (sort_ev t0).rounds
      have FS : Aside0 (lexis_Sort.f ks t0 = some (s0, true)) := ⟨by rw [hks]; exact congrArg some hso⟩
      clear hx hp2 hap hpl hbl htx hso hnx hrd hdj hks
      replace p157 := eq_true p157
      replace q157 := eq_true q157
      have hsz0 := HBr.out.size
      have KB := HB
      clear HB
      have HB := HBr
      go_wp2_with fail
      refine (lexis_Sort.calls ks t0 s0 true _ FS.out).mono ?_
      rintro e w3 ⟨rfl, hb⟩
      have HGB := Aside0.mk (blk_below (g := wr.heap.size) (o := .cells #[.int .u8 s0, .string t0, .int .i64 z2] 31 (0, 0)) (blk_new _ _) hb)
      have HW3 := Aside0.mk (below_step (below_alloc HW.out _) hb)
      clear hb HB HBr HW
      have HB := KB
      have d0 : w3.cell? ⟨wr.heap.size, 0, none⟩ = some (.int .u8 s0) := (blk_cell HGB.out 0).trans rfl
      have d1 : w3.cell? ⟨wr.heap.size, 1, none⟩ = some (.string t0) := (blk_cell HGB.out 1).trans rfl
      have d2 : w3.cell? ⟨wr.heap.size, 2, none⟩ = some (.int .i64 z2) := (blk_cell HGB.out 2).trans rfl
      clear hx0 hx1 hx2 p157 q157 c1
      go_wp2_with fail
      obtain ⟨hw, e1, e2, g1, g2, g3, e3, g4, g5, g6, kb, hkb⟩ := word_tests a0 t0 a p za z2 HL.out hz.out.2.1 FZ.out.1 FZ.out.2.1 FZ.out.2.2 FB.out FT.out
      have FW := Aside0.mk hw
      have FK := Aside0.mk hkb
      clear hw hkb
      obtain ⟨z3, hz3⟩ : ∃ z3 : Int, z3 = wrap64 (z2 + (t0.size : Int)) := ⟨_, rfl⟩
      rw [← hz3] at e2 g2 g3 e3
      have hw0 := FW.out
      rw [← hz3] at hw0
      have FW3 := Aside0.mk hw0
      have hw3 : IntKind.i64.wrap (z2 + (t0.size : Int)) = z3 := by rw [hz3, i64_w]
      have hw4 : wrap64 (z2 + (t0.size : Int)) = z3 := hz3.symm
      clear hz3 hw0 FW
      replace g1 := eq_true g1
      replace g2 := eq_true g2
      replace g3 := eq_true g3
      replace g4 := eq_true g4
      replace g5 := eq_true g5
      replace g6 := eq_true g6
      have e4 : ((a0.extract z2.toNat z3.toNat).toList != t0.toList) = false := bne_eq_false_iff_eq.2 e3
      go_region_held3 (fun w' => w'.cell? ⟨wr.heap.size, 0, none⟩ = some (.int .u8 s0) ∧ w'.cell? ⟨wr.heap.size, 1, none⟩ = some (.string t0) ∧ w'.cell? ⟨wr.heap.size, 2, none⟩ = some (.int .i64 z2)) (go_keep) ((go_at_call 16; refine (rejoinderlaw04_blank.calls kb _ true _ FK.out).mono ?_; rintro e w' ⟨rfl, ⟨nd, rfl⟩⟩))
      have HBz := Aside0.mk HB.out
      have hww : Aside0 (wrap64 (zj + 1) = ((j + 1 : Nat) : Int)) := ⟨by have h1 := HC.out.2.1; have h2 := hz.out.1; clear hw3 hw4; unfold wrap64; omega⟩
      have hpp : Aside0 (p + t0.size ≤ 4096 ∧ (j + 1) + k1 = ws.length) := ⟨by have h1 := FZ.out.2.2; have h2 := HL.out; clear hw3 hw4; omega, by have := hz.out.2.2.1; clear hw3 hw4; omega⟩
      rename_i hHeld
      obtain ⟨d3, d4, d5⟩ := hHeld
      go_wp2_with fail
      go_roundg k1
      case measure => clear hw3 hw4; omega
      case rel => exact ⟨j + 1, p + t0.size, _, _, rfl, rfl, ⟨hww.out, FW3.out, hpp.out.2, hpp.out.1⟩, ⟨FN.out⟩, ⟨by repeat (first | exact HW3.out | apply pw_below_drewN | apply below_drew1)⟩⟩
/-- The law, of any text. -/
theorem law_spans (a0 : ByteArray) (w : World) (HT : Aside0 (Laid w)) :
    Calls Tryd.prog 3 #[.string a0] w fun e w' => e = .returned (.bool true) ∧ Below w.heap.size w w' := by
  obtain ⟨k, hk⟩ := (words_ev a0).rounds
  rcases words_cases a0.data.toList with ⟨er, at_, h, hne⟩ | ⟨ws, h, hl, hn⟩
  · rw [h] at hk
    exact law_spans_bad a0 w HT k er at_ hk hne
  · rw [h] at hk
    exact law_spans_good a0 w HT k ws hk hl hn
end Go.Proofs.YtaogoabnidbbpaaDoor.PText
