/- Texts of this work merged into one file, what the law does not need left out: TextLeft; TextStar; TextTil; TextBare; TextModal; TextUnary. Conditions stand in each law. -/
import Derived.Test.YtaogoabnidbbpaaGreatDoorSt19
namespace Go.Proofs.YtaogoabnidbbpaaGreatDoor.PText
open Go.RowKit Go.Proofs.YtaogoabnidbbpaaGreatDoorW.PrintWords Go.Proofs.YtaogoabnidbbpaaGreatDoorW.PrintLast Go.Proofs.YtaogoabnidbbpaaGreatDoorW.PrintMore Go.Proofs.YtaogoabnidbbpaaGreatDoorW.Aid
set_option linter.unusedVariables false
set_option linter.unusedSimpArgs false
set_option maxHeartbeats 4000000 in
set_option maxRecDepth 100000 in
theorem left_iff (names : List ByteArray) (w0 : World) (g : Nat) (nm : Option Addr) (nn cn : Nat) (last : Int) (n : Nat) (sB : ∀ m, m ≤ n → Slim names last m .imp) (dB : ∀ m, m ≤ n → Does names w0 g nm nn cn last m .imp)
  (r : Rd) (e : End) (hrun : thenDo (run names last n .imp r) (run names last n .moreIff) = some e) (hsz : r.size ≤ 1099511627775) (W : World) (hI : RdAt w0 g nm nn cn last W r) :
  Calls Tryz.prog 61 #[.pointer (some ⟨g, 0, none⟩), .string (bytesB [60, 45, 62]), .int .u8 14, .func (Fn.func 63) #[.pointer (some ⟨g, 0, none⟩)] #[]] W (Told w0 g nm nn cn last e) := by
 have HI := Aside0.mk hI
 have SB := Aside0.mk sB
 have DB := Aside0.mk dB
 clear hI sB dB
 cases h1 : run names last n .imp r with
 | none => rw [h1] at hrun; cases hrun
 | some e1 =>
  rw [h1] at hrun
  have D1 := Aside0.mk (DB.out n (Nat.le_refl _) r e1 h1 hsz)
  cases e1 with
  | stop er a =>
   obtain rfl : e = .stop er a := by cases hrun; rfl
   clear hrun h1
   go_enter Tryz.func61, Tryz.ntmps61
   go_wp2_with (go_at_call 63; refine (D1.out W HI.out).mono ?_; rintro e w' ⟨rfl, hb⟩; unfold thrown)
   exact ⟨rfl, rfl, hb⟩
  | go r1 =>
   have hr1 := SB.out n (Nat.le_refl _) r r1 h1
   have hrun2 : run names last n .moreIff r1 = some e := hrun
   have HR1 := Aside0.mk (show run names last n .moreIff r1 = some e ∧ r1.size ≤ 1099511627775 from ⟨hrun2, by omega⟩)
   clear hrun hrun2 hr1 h1 hsz
   go_enter Tryz.func61, Tryz.ntmps61
   go_wp2_with (go_at_call 63; refine (D1.out W HI.out).mono ?_; rintro e w' ⟨rfl, hI2⟩; have HI2 := Aside0.mk hI2; clear hI2)
   go_loopg [] n (fun kq w' => ∃ (q : Rd), Aside0 (run names last kq .moreIff q = some e ∧ q.size ≤ 1099511627775 ∧ kq ≤ n) ∧ Aside0 (RdAt w0 g nm nn cn last w' q))
   case atStart => exact ⟨r1, ⟨HR1.out.1, HR1.out.2, Nat.le_refl _⟩, ⟨HI2.out⟩⟩
   case round =>
    clear HI2 HI HR1 D1
    obtain ⟨q, hq, HI⟩ := hrel
    cases gk with
    | zero => have := hq.out.1; rw [run] at this; cases this
    | succ k1 =>
     have hrun := hq.out.1
     have hqs := hq.out.2.1
     have hkn := hq.out.2.2
     rw [run] at hrun
     by_cases hn : q.next = [60, 45, 62]
     ·rw [if_pos hn] at hrun
      have hws := next_ws (by decide) hn
      have hps := pop_size q
      cases h2 : run names last k1 .imp q.pop with
      | none => rw [h2] at hrun; cases hrun
      | some e2 =>
       rw [h2] at hrun
       have D2 := Aside0.mk (DB.out k1 (by omega) q.pop e2 h2 (by omega))
       have HT := Aside0.mk (fun W h => take_calls w0 g nm nn cn last q [60, 45, 62] (by decide) W h)
       rw [if_pos hn, decide_eq_true hn] at HT
       have HN := Aside0.mk hn
       clear hn
       cases e2 with
       | stop er a =>
        obtain rfl : e = .stop er a := by cases hrun; rfl
        clear hrun h2
        go_wp2_with (first | (go_at_call 79; refine (HT.out _ HI.out).mono ?_; rintro e w' ⟨rfl, hI3⟩; have HI3 := Aside0.mk hI3; clear hI3) | (go_at_call 63; refine (D2.out _ HI3.out).mono ?_; rintro e w' ⟨rfl, hb⟩; unfold thrown))
        exact ⟨rfl, rfl, hb⟩
       | go r2 =>
        have hr2 := SB.out k1 (by omega) q.pop r2 h2
        have hgo : run names last k1 .moreIff (r2.put 14) = some e := hrun
        have hlo : r2.out.length ≤ 1099511627776 := by have h7 : r2.out.length ≤ r2.size := Nat.le_add_right _ _; omega
        have hsp : (r2.put 14).size ≤ 1099511627775 := by
         have h5 : q.pop.size + 1 ≤ q.size := by
          unfold Rd.size Rd.pop
          show q.out.length + (q.ws.drop 1).length + 1 ≤ _
          rw [List.length_drop]; omega
         have h6 : (r2.put 14).size = r2.size + 1 := by
          unfold Rd.size Rd.put
          show (r2.out ++ [_]).length + r2.ws.length = _
          rw [List.length_append, List.length_cons, List.length_nil]; omega
         omega
        have HP := Aside0.mk (fun W h => put_calls w0 g nm nn cn last r2 14 hlo W h)
        have HG := Aside0.mk (show run names last k1 .moreIff (r2.put 14) = some e ∧ (r2.put 14).size ≤ 1099511627775 ∧ k1 ≤ n from ⟨hgo, hsp, by omega⟩)
        clear hrun h2 hr2 hlo hgo hsp hqs hps hkn
        go_wp2_with (first | (go_at_call 79; refine (HT.out _ HI.out).mono ?_; rintro e w' ⟨rfl, hI3⟩; have HI3 := Aside0.mk hI3; clear hI3) | (go_at_call 63; refine (D2.out _ HI3.out).mono ?_; rintro e w' ⟨rfl, hI4⟩; have HI4 := Aside0.mk hI4; clear hI4) | (go_at_call 80; refine (HP.out _ HI4.out).mono ?_; rintro e w' ⟨rfl, hI5⟩; have HI5 := Aside0.mk hI5; clear hI5))
        go_roundg k1
        case measure => exact Nat.lt_succ_self _
        case rel => exact ⟨r2.put 14, HG, HI5⟩
     ·rw [if_neg hn] at hrun
      obtain rfl : e = .go q := by cases hrun; rfl
      have HT := Aside0.mk (fun W h => take_calls w0 g nm nn cn last q [60, 45, 62] (by decide) W h)
      rw [if_neg hn, decide_eq_false hn] at HT
      clear hrun hn
      go_wp2_with (first | (go_at_call 79; refine (HT.out _ HI.out).mono ?_; rintro e w' ⟨rfl, hI3⟩))
      go_end0
      exact ⟨rfl, hI3⟩
set_option maxHeartbeats 4000000 in
set_option maxRecDepth 100000 in
theorem iff_does (names : List ByteArray) (w0 : World) (g : Nat) (nm : Option Addr) (nn cn : Nat) (last : Int) (n : Nat) (sB : ∀ m, m ≤ n → Slim names last m .imp) (dB : ∀ m, m ≤ n → Does names w0 g nm nn cn last m .imp) :
  Does names w0 g nm nn cn last (n + 1) .iff := by
 intro r e hrun hsz W hI
 rw [run] at hrun
 have HL := Aside0.mk (left_iff names w0 g nm nn cn last n sB dB r e hrun hsz W hI)
 clear hrun hsz hI sB dB
 show Calls Tryz.prog 48 _ W _
 cases e with
 | go r' =>
  go_enter Tryz.func48, Tryz.ntmps48
  go_wp2_with (go_at_call 61; refine HL.out.mono ?_; rintro e w' ⟨rfl, hI2⟩)
  go_end0
  exact ⟨rfl, hI2⟩
 | stop er a =>
  go_enter Tryz.func48, Tryz.ntmps48
  go_wp2_with (go_at_call 61; refine HL.out.mono ?_; rintro e w' ⟨rfl, hb⟩; unfold thrown)
  exact ⟨rfl, rfl, hb⟩
set_option maxHeartbeats 4000000 in
set_option maxRecDepth 100000 in
theorem left_or (names : List ByteArray) (w0 : World) (g : Nat) (nm : Option Addr) (nn cn : Nat) (last : Int) (n : Nat) (sB : ∀ m, m ≤ n → Slim names last m .and) (dB : ∀ m, m ≤ n → Does names w0 g nm nn cn last m .and)
  (r : Rd) (e : End) (hrun : thenDo (run names last n .and r) (run names last n .moreOr) = some e) (hsz : r.size ≤ 1099511627775) (W : World) (hI : RdAt w0 g nm nn cn last W r) :
  Calls Tryz.prog 61 #[.pointer (some ⟨g, 0, none⟩), .string (bytesB [124]), .int .u8 12, .func (Fn.func 95) #[.pointer (some ⟨g, 0, none⟩)] #[]] W (Told w0 g nm nn cn last e) := by
 have HI := Aside0.mk hI
 have SB := Aside0.mk sB
 have DB := Aside0.mk dB
 clear hI sB dB
 cases h1 : run names last n .and r with
 | none => rw [h1] at hrun; cases hrun
 | some e1 =>
  rw [h1] at hrun
  have D1 := Aside0.mk (DB.out n (Nat.le_refl _) r e1 h1 hsz)
  cases e1 with
  | stop er a =>
   obtain rfl : e = .stop er a := by cases hrun; rfl
   clear hrun h1
   go_enter Tryz.func61, Tryz.ntmps61
   go_wp2_with (go_at_call 95; refine (D1.out W HI.out).mono ?_; rintro e w' ⟨rfl, hb⟩; unfold thrown)
   exact ⟨rfl, rfl, hb⟩
  | go r1 =>
   have hr1 := SB.out n (Nat.le_refl _) r r1 h1
   have hrun2 : run names last n .moreOr r1 = some e := hrun
   have HR1 := Aside0.mk (show run names last n .moreOr r1 = some e ∧ r1.size ≤ 1099511627775 from ⟨hrun2, by omega⟩)
   clear hrun hrun2 hr1 h1 hsz
   go_enter Tryz.func61, Tryz.ntmps61
   go_wp2_with (go_at_call 95; refine (D1.out W HI.out).mono ?_; rintro e w' ⟨rfl, hI2⟩; have HI2 := Aside0.mk hI2; clear hI2)
   go_loopg [] n (fun kq w' => ∃ (q : Rd), Aside0 (run names last kq .moreOr q = some e ∧ q.size ≤ 1099511627775 ∧ kq ≤ n) ∧ Aside0 (RdAt w0 g nm nn cn last w' q))
   case atStart => exact ⟨r1, ⟨HR1.out.1, HR1.out.2, Nat.le_refl _⟩, ⟨HI2.out⟩⟩
   case round =>
    clear HI2 HI HR1 D1
    obtain ⟨q, hq, HI⟩ := hrel
    cases gk with
    | zero => have := hq.out.1; rw [run] at this; cases this
    | succ k1 =>
     have hrun := hq.out.1
     have hqs := hq.out.2.1
     have hkn := hq.out.2.2
     rw [run] at hrun
     by_cases hn : q.next = [124]
     ·rw [if_pos hn] at hrun
      have hws := next_ws (by decide) hn
      have hps := pop_size q
      cases h2 : run names last k1 .and q.pop with
      | none => rw [h2] at hrun; cases hrun
      | some e2 =>
       rw [h2] at hrun
       have D2 := Aside0.mk (DB.out k1 (by omega) q.pop e2 h2 (by omega))
       have HT := Aside0.mk (fun W h => take_calls w0 g nm nn cn last q [124] (by decide) W h)
       rw [if_pos hn, decide_eq_true hn] at HT
       have HN := Aside0.mk hn
       clear hn
       cases e2 with
       | stop er a =>
        obtain rfl : e = .stop er a := by cases hrun; rfl
        clear hrun h2
        go_wp2_with (first | (go_at_call 79; refine (HT.out _ HI.out).mono ?_; rintro e w' ⟨rfl, hI3⟩; have HI3 := Aside0.mk hI3; clear hI3) | (go_at_call 95; refine (D2.out _ HI3.out).mono ?_; rintro e w' ⟨rfl, hb⟩; unfold thrown))
        exact ⟨rfl, rfl, hb⟩
       | go r2 =>
        have hr2 := SB.out k1 (by omega) q.pop r2 h2
        have hgo : run names last k1 .moreOr (r2.put 12) = some e := hrun
        have hlo : r2.out.length ≤ 1099511627776 := by have h7 : r2.out.length ≤ r2.size := Nat.le_add_right _ _; omega
        have hsp : (r2.put 12).size ≤ 1099511627775 := by
         have h5 : q.pop.size + 1 ≤ q.size := by
          unfold Rd.size Rd.pop
          show q.out.length + (q.ws.drop 1).length + 1 ≤ _
          rw [List.length_drop]; omega
         have h6 : (r2.put 12).size = r2.size + 1 := by
          unfold Rd.size Rd.put
          show (r2.out ++ [_]).length + r2.ws.length = _
          rw [List.length_append, List.length_cons, List.length_nil]; omega
         omega
        have HP := Aside0.mk (fun W h => put_calls w0 g nm nn cn last r2 12 hlo W h)
        have HG := Aside0.mk (show run names last k1 .moreOr (r2.put 12) = some e ∧ (r2.put 12).size ≤ 1099511627775 ∧ k1 ≤ n from ⟨hgo, hsp, by omega⟩)
        clear hrun h2 hr2 hlo hgo hsp hqs hps hkn
        go_wp2_with (first | (go_at_call 79; refine (HT.out _ HI.out).mono ?_; rintro e w' ⟨rfl, hI3⟩; have HI3 := Aside0.mk hI3; clear hI3) | (go_at_call 95; refine (D2.out _ HI3.out).mono ?_; rintro e w' ⟨rfl, hI4⟩; have HI4 := Aside0.mk hI4; clear hI4) | (go_at_call 80; refine (HP.out _ HI4.out).mono ?_; rintro e w' ⟨rfl, hI5⟩; have HI5 := Aside0.mk hI5; clear hI5))
        go_roundg k1
        case measure => exact Nat.lt_succ_self _
        case rel => exact ⟨r2.put 12, HG, HI5⟩
     ·rw [if_neg hn] at hrun
      obtain rfl : e = .go q := by cases hrun; rfl
      have HT := Aside0.mk (fun W h => take_calls w0 g nm nn cn last q [124] (by decide) W h)
      rw [if_neg hn, decide_eq_false hn] at HT
      clear hrun hn
      go_wp2_with (first | (go_at_call 79; refine (HT.out _ HI.out).mono ?_; rintro e w' ⟨rfl, hI3⟩))
      go_end0
      exact ⟨rfl, hI3⟩
set_option maxHeartbeats 4000000 in
set_option maxRecDepth 100000 in
theorem or_does (names : List ByteArray) (w0 : World) (g : Nat) (nm : Option Addr) (nn cn : Nat) (last : Int) (n : Nat) (sB : ∀ m, m ≤ n → Slim names last m .and) (dB : ∀ m, m ≤ n → Does names w0 g nm nn cn last m .and) :
  Does names w0 g nm nn cn last (n + 1) .or := by
 intro r e hrun hsz W hI
 rw [run] at hrun
 have HL := Aside0.mk (left_or names w0 g nm nn cn last n sB dB r e hrun hsz W hI)
 clear hrun hsz hI sB dB
 show Calls Tryz.prog 82 _ W _
 cases e with
 | go r' =>
  go_enter Tryz.func82, Tryz.ntmps82
  go_wp2_with (go_at_call 61; refine HL.out.mono ?_; rintro e w' ⟨rfl, hI2⟩)
  go_end0
  exact ⟨rfl, hI2⟩
 | stop er a =>
  go_enter Tryz.func82, Tryz.ntmps82
  go_wp2_with (go_at_call 61; refine HL.out.mono ?_; rintro e w' ⟨rfl, hb⟩; unfold thrown)
  exact ⟨rfl, rfl, hb⟩
set_option maxHeartbeats 4000000 in
set_option maxRecDepth 100000 in
theorem left_and (names : List ByteArray) (w0 : World) (g : Nat) (nm : Option Addr) (nn cn : Nat) (last : Int) (n : Nat) (sB : ∀ m, m ≤ n → Slim names last m .til) (dB : ∀ m, m ≤ n → Does names w0 g nm nn cn last m .til)
  (r : Rd) (e : End) (hrun : thenDo (run names last n .til r) (run names last n .moreAnd) = some e) (hsz : r.size ≤ 1099511627775) (W : World) (hI : RdAt w0 g nm nn cn last W r) :
  Calls Tryz.prog 61 #[.pointer (some ⟨g, 0, none⟩), .string (bytesB [38]), .int .u8 11, .func (Fn.func 99) #[.pointer (some ⟨g, 0, none⟩)] #[]] W (Told w0 g nm nn cn last e) := by
 have HI := Aside0.mk hI
 have SB := Aside0.mk sB
 have DB := Aside0.mk dB
 clear hI sB dB
 cases h1 : run names last n .til r with
 | none => rw [h1] at hrun; cases hrun
 | some e1 =>
  rw [h1] at hrun
  have D1 := Aside0.mk (DB.out n (Nat.le_refl _) r e1 h1 hsz)
  cases e1 with
  | stop er a =>
   obtain rfl : e = .stop er a := by cases hrun; rfl
   clear hrun h1
   go_enter Tryz.func61, Tryz.ntmps61
   go_wp2_with (go_at_call 99; refine (D1.out W HI.out).mono ?_; rintro e w' ⟨rfl, hb⟩; unfold thrown)
   exact ⟨rfl, rfl, hb⟩
  | go r1 =>
   have hr1 := SB.out n (Nat.le_refl _) r r1 h1
   have hrun2 : run names last n .moreAnd r1 = some e := hrun
   have HR1 := Aside0.mk (show run names last n .moreAnd r1 = some e ∧ r1.size ≤ 1099511627775 from ⟨hrun2, by omega⟩)
   clear hrun hrun2 hr1 h1 hsz
   go_enter Tryz.func61, Tryz.ntmps61
   go_wp2_with (go_at_call 99; refine (D1.out W HI.out).mono ?_; rintro e w' ⟨rfl, hI2⟩; have HI2 := Aside0.mk hI2; clear hI2)
   go_loopg [] n (fun kq w' => ∃ (q : Rd), Aside0 (run names last kq .moreAnd q = some e ∧ q.size ≤ 1099511627775 ∧ kq ≤ n) ∧ Aside0 (RdAt w0 g nm nn cn last w' q))
   case atStart => exact ⟨r1, ⟨HR1.out.1, HR1.out.2, Nat.le_refl _⟩, ⟨HI2.out⟩⟩
   case round =>
    clear HI2 HI HR1 D1
    obtain ⟨q, hq, HI⟩ := hrel
    cases gk with
    | zero => have := hq.out.1; rw [run] at this; cases this
    | succ k1 =>
     have hrun := hq.out.1
     have hqs := hq.out.2.1
     have hkn := hq.out.2.2
     rw [run] at hrun
     by_cases hn : q.next = [38]
     ·rw [if_pos hn] at hrun
      have hws := next_ws (by decide) hn
      have hps := pop_size q
      cases h2 : run names last k1 .til q.pop with
      | none => rw [h2] at hrun; cases hrun
      | some e2 =>
       rw [h2] at hrun
       have D2 := Aside0.mk (DB.out k1 (by omega) q.pop e2 h2 (by omega))
       have HT := Aside0.mk (fun W h => take_calls w0 g nm nn cn last q [38] (by decide) W h)
       rw [if_pos hn, decide_eq_true hn] at HT
       have HN := Aside0.mk hn
       clear hn
       cases e2 with
       | stop er a =>
        obtain rfl : e = .stop er a := by cases hrun; rfl
        clear hrun h2
        go_wp2_with (first | (go_at_call 79; refine (HT.out _ HI.out).mono ?_; rintro e w' ⟨rfl, hI3⟩; have HI3 := Aside0.mk hI3; clear hI3) | (go_at_call 99; refine (D2.out _ HI3.out).mono ?_; rintro e w' ⟨rfl, hb⟩; unfold thrown))
        exact ⟨rfl, rfl, hb⟩
       | go r2 =>
        have hr2 := SB.out k1 (by omega) q.pop r2 h2
        have hgo : run names last k1 .moreAnd (r2.put 11) = some e := hrun
        have hlo : r2.out.length ≤ 1099511627776 := by have h7 : r2.out.length ≤ r2.size := Nat.le_add_right _ _; omega
        have hsp : (r2.put 11).size ≤ 1099511627775 := by
         have h5 : q.pop.size + 1 ≤ q.size := by
          unfold Rd.size Rd.pop
          show q.out.length + (q.ws.drop 1).length + 1 ≤ _
          rw [List.length_drop]; omega
         have h6 : (r2.put 11).size = r2.size + 1 := by
          unfold Rd.size Rd.put
          show (r2.out ++ [_]).length + r2.ws.length = _
          rw [List.length_append, List.length_cons, List.length_nil]; omega
         omega
        have HP := Aside0.mk (fun W h => put_calls w0 g nm nn cn last r2 11 hlo W h)
        have HG := Aside0.mk (show run names last k1 .moreAnd (r2.put 11) = some e ∧ (r2.put 11).size ≤ 1099511627775 ∧ k1 ≤ n from ⟨hgo, hsp, by omega⟩)
        clear hrun h2 hr2 hlo hgo hsp hqs hps hkn
        go_wp2_with (first | (go_at_call 79; refine (HT.out _ HI.out).mono ?_; rintro e w' ⟨rfl, hI3⟩; have HI3 := Aside0.mk hI3; clear hI3) | (go_at_call 99; refine (D2.out _ HI3.out).mono ?_; rintro e w' ⟨rfl, hI4⟩; have HI4 := Aside0.mk hI4; clear hI4) | (go_at_call 80; refine (HP.out _ HI4.out).mono ?_; rintro e w' ⟨rfl, hI5⟩; have HI5 := Aside0.mk hI5; clear hI5))
        go_roundg k1
        case measure => exact Nat.lt_succ_self _
        case rel => exact ⟨r2.put 11, HG, HI5⟩
     ·rw [if_neg hn] at hrun
      obtain rfl : e = .go q := by cases hrun; rfl
      have HT := Aside0.mk (fun W h => take_calls w0 g nm nn cn last q [38] (by decide) W h)
      rw [if_neg hn, decide_eq_false hn] at HT
      clear hrun hn
      go_wp2_with (first | (go_at_call 79; refine (HT.out _ HI.out).mono ?_; rintro e w' ⟨rfl, hI3⟩))
      go_end0
      exact ⟨rfl, hI3⟩
set_option maxHeartbeats 4000000 in
set_option maxRecDepth 100000 in
theorem and_does (names : List ByteArray) (w0 : World) (g : Nat) (nm : Option Addr) (nn cn : Nat) (last : Int) (n : Nat) (sB : ∀ m, m ≤ n → Slim names last m .til) (dB : ∀ m, m ≤ n → Does names w0 g nm nn cn last m .til) :
  Does names w0 g nm nn cn last (n + 1) .and := by
 intro r e hrun hsz W hI
 rw [run] at hrun
 have HL := Aside0.mk (left_and names w0 g nm nn cn last n sB dB r e hrun hsz W hI)
 clear hrun hsz hI sB dB
 show Calls Tryz.prog 95 _ W _
 cases e with
 | go r' =>
  go_enter Tryz.func95, Tryz.ntmps95
  go_wp2_with (go_at_call 61; refine HL.out.mono ?_; rintro e w' ⟨rfl, hI2⟩)
  go_end0
  exact ⟨rfl, hI2⟩
 | stop er a =>
  go_enter Tryz.func95, Tryz.ntmps95
  go_wp2_with (go_at_call 61; refine HL.out.mono ?_; rintro e w' ⟨rfl, hb⟩; unfold thrown)
  exact ⟨rfl, rfl, hb⟩
set_option maxHeartbeats 4000000 in
set_option maxRecDepth 100000 in
theorem left_plus (names : List ByteArray) (w0 : World) (g : Nat) (nm : Option Addr) (nn cn : Nat) (last : Int) (n : Nat) (sB : ∀ m, m ≤ n → Slim names last m .seq) (dB : ∀ m, m ≤ n → Does names w0 g nm nn cn last m .seq)
  (r : Rd) (e : End) (hrun : thenDo (run names last n .seq r) (run names last n .morePlus) = some e) (hsz : r.size ≤ 1099511627775) (W : World) (hI : RdAt w0 g nm nn cn last W r) :
  Calls Tryz.prog 61 #[.pointer (some ⟨g, 0, none⟩), .string (bytesB [43]), .int .u8 21, .func (Fn.func 62) #[.pointer (some ⟨g, 0, none⟩)] #[]] W (Told w0 g nm nn cn last e) := by
 have HI := Aside0.mk hI
 have SB := Aside0.mk sB
 have DB := Aside0.mk dB
 clear hI sB dB
 cases h1 : run names last n .seq r with
 | none => rw [h1] at hrun; cases hrun
 | some e1 =>
  rw [h1] at hrun
  have D1 := Aside0.mk (DB.out n (Nat.le_refl _) r e1 h1 hsz)
  cases e1 with
  | stop er a =>
   obtain rfl : e = .stop er a := by cases hrun; rfl
   clear hrun h1
   go_enter Tryz.func61, Tryz.ntmps61
   go_wp2_with (go_at_call 62; refine (D1.out W HI.out).mono ?_; rintro e w' ⟨rfl, hb⟩; unfold thrown)
   exact ⟨rfl, rfl, hb⟩
  | go r1 =>
   have hr1 := SB.out n (Nat.le_refl _) r r1 h1
   have hrun2 : run names last n .morePlus r1 = some e := hrun
   have HR1 := Aside0.mk (show run names last n .morePlus r1 = some e ∧ r1.size ≤ 1099511627775 from ⟨hrun2, by omega⟩)
   clear hrun hrun2 hr1 h1 hsz
   go_enter Tryz.func61, Tryz.ntmps61
   go_wp2_with (go_at_call 62; refine (D1.out W HI.out).mono ?_; rintro e w' ⟨rfl, hI2⟩; have HI2 := Aside0.mk hI2; clear hI2)
   go_loopg [] n (fun kq w' => ∃ (q : Rd), Aside0 (run names last kq .morePlus q = some e ∧ q.size ≤ 1099511627775 ∧ kq ≤ n) ∧ Aside0 (RdAt w0 g nm nn cn last w' q))
   case atStart => exact ⟨r1, ⟨HR1.out.1, HR1.out.2, Nat.le_refl _⟩, ⟨HI2.out⟩⟩
   case round =>
    clear HI2 HI HR1 D1
    obtain ⟨q, hq, HI⟩ := hrel
    cases gk with
    | zero => have := hq.out.1; rw [run] at this; cases this
    | succ k1 =>
     have hrun := hq.out.1
     have hqs := hq.out.2.1
     have hkn := hq.out.2.2
     rw [run] at hrun
     by_cases hn : q.next = [43]
     ·rw [if_pos hn] at hrun
      have hws := next_ws (by decide) hn
      have hps := pop_size q
      cases h2 : run names last k1 .seq q.pop with
      | none => rw [h2] at hrun; cases hrun
      | some e2 =>
       rw [h2] at hrun
       have D2 := Aside0.mk (DB.out k1 (by omega) q.pop e2 h2 (by omega))
       have HT := Aside0.mk (fun W h => take_calls w0 g nm nn cn last q [43] (by decide) W h)
       rw [if_pos hn, decide_eq_true hn] at HT
       have HN := Aside0.mk hn
       clear hn
       cases e2 with
       | stop er a =>
        obtain rfl : e = .stop er a := by cases hrun; rfl
        clear hrun h2
        go_wp2_with (first | (go_at_call 79; refine (HT.out _ HI.out).mono ?_; rintro e w' ⟨rfl, hI3⟩; have HI3 := Aside0.mk hI3; clear hI3) | (go_at_call 62; refine (D2.out _ HI3.out).mono ?_; rintro e w' ⟨rfl, hb⟩; unfold thrown))
        exact ⟨rfl, rfl, hb⟩
       | go r2 =>
        have hr2 := SB.out k1 (by omega) q.pop r2 h2
        have hgo : run names last k1 .morePlus (r2.put 21) = some e := hrun
        have hlo : r2.out.length ≤ 1099511627776 := by have h7 : r2.out.length ≤ r2.size := Nat.le_add_right _ _; omega
        have hsp : (r2.put 21).size ≤ 1099511627775 := by
         have h5 : q.pop.size + 1 ≤ q.size := by
          unfold Rd.size Rd.pop
          show q.out.length + (q.ws.drop 1).length + 1 ≤ _
          rw [List.length_drop]; omega
         have h6 : (r2.put 21).size = r2.size + 1 := by
          unfold Rd.size Rd.put
          show (r2.out ++ [_]).length + r2.ws.length = _
          rw [List.length_append, List.length_cons, List.length_nil]; omega
         omega
        have HP := Aside0.mk (fun W h => put_calls w0 g nm nn cn last r2 21 hlo W h)
        have HG := Aside0.mk (show run names last k1 .morePlus (r2.put 21) = some e ∧ (r2.put 21).size ≤ 1099511627775 ∧ k1 ≤ n from ⟨hgo, hsp, by omega⟩)
        clear hrun h2 hr2 hlo hgo hsp hqs hps hkn
        go_wp2_with (first | (go_at_call 79; refine (HT.out _ HI.out).mono ?_; rintro e w' ⟨rfl, hI3⟩; have HI3 := Aside0.mk hI3; clear hI3) | (go_at_call 62; refine (D2.out _ HI3.out).mono ?_; rintro e w' ⟨rfl, hI4⟩; have HI4 := Aside0.mk hI4; clear hI4) | (go_at_call 80; refine (HP.out _ HI4.out).mono ?_; rintro e w' ⟨rfl, hI5⟩; have HI5 := Aside0.mk hI5; clear hI5))
        go_roundg k1
        case measure => exact Nat.lt_succ_self _
        case rel => exact ⟨r2.put 21, HG, HI5⟩
     ·rw [if_neg hn] at hrun
      obtain rfl : e = .go q := by cases hrun; rfl
      have HT := Aside0.mk (fun W h => take_calls w0 g nm nn cn last q [43] (by decide) W h)
      rw [if_neg hn, decide_eq_false hn] at HT
      clear hrun hn
      go_wp2_with (first | (go_at_call 79; refine (HT.out _ HI.out).mono ?_; rintro e w' ⟨rfl, hI3⟩))
      go_end0
      exact ⟨rfl, hI3⟩
set_option maxHeartbeats 4000000 in
set_option maxRecDepth 100000 in
theorem plus_does (names : List ByteArray) (w0 : World) (g : Nat) (nm : Option Addr) (nn cn : Nat) (last : Int) (n : Nat) (sB : ∀ m, m ≤ n → Slim names last m .seq) (dB : ∀ m, m ≤ n → Does names w0 g nm nn cn last m .seq) :
  Does names w0 g nm nn cn last (n + 1) .plus := by
 intro r e hrun hsz W hI
 rw [run] at hrun
 have HL := Aside0.mk (left_plus names w0 g nm nn cn last n sB dB r e hrun hsz W hI)
 clear hrun hsz hI sB dB
 show Calls Tryz.prog 47 _ W _
 cases e with
 | go r' =>
  go_enter Tryz.func47, Tryz.ntmps47
  go_wp2_with (go_at_call 61; refine HL.out.mono ?_; rintro e w' ⟨rfl, hI2⟩)
  go_end0
  exact ⟨rfl, hI2⟩
 | stop er a =>
  go_enter Tryz.func47, Tryz.ntmps47
  go_wp2_with (go_at_call 61; refine HL.out.mono ?_; rintro e w' ⟨rfl, hb⟩; unfold thrown)
  exact ⟨rfl, rfl, hb⟩
set_option maxHeartbeats 4000000 in
set_option maxRecDepth 100000 in
theorem left_seq (names : List ByteArray) (w0 : World) (g : Nat) (nm : Option Addr) (nn cn : Nat) (last : Int) (n : Nat) (sB : ∀ m, m ≤ n → Slim names last m .star) (dB : ∀ m, m ≤ n → Does names w0 g nm nn cn last m .star)
  (r : Rd) (e : End) (hrun : thenDo (run names last n .star r) (run names last n .moreSeq) = some e) (hsz : r.size ≤ 1099511627775) (W : World) (hI : RdAt w0 g nm nn cn last W r) :
  Calls Tryz.prog 61 #[.pointer (some ⟨g, 0, none⟩), .string (bytesB [59]), .int .u8 22, .func (Fn.func 81) #[.pointer (some ⟨g, 0, none⟩)] #[]] W (Told w0 g nm nn cn last e) := by
 have HI := Aside0.mk hI
 have SB := Aside0.mk sB
 have DB := Aside0.mk dB
 clear hI sB dB
 cases h1 : run names last n .star r with
 | none => rw [h1] at hrun; cases hrun
 | some e1 =>
  rw [h1] at hrun
  have D1 := Aside0.mk (DB.out n (Nat.le_refl _) r e1 h1 hsz)
  cases e1 with
  | stop er a =>
   obtain rfl : e = .stop er a := by cases hrun; rfl
   clear hrun h1
   go_enter Tryz.func61, Tryz.ntmps61
   go_wp2_with (go_at_call 81; refine (D1.out W HI.out).mono ?_; rintro e w' ⟨rfl, hb⟩; unfold thrown)
   exact ⟨rfl, rfl, hb⟩
  | go r1 =>
   have hr1 := SB.out n (Nat.le_refl _) r r1 h1
   have hrun2 : run names last n .moreSeq r1 = some e := hrun
   have HR1 := Aside0.mk (show run names last n .moreSeq r1 = some e ∧ r1.size ≤ 1099511627775 from ⟨hrun2, by omega⟩)
   clear hrun hrun2 hr1 h1 hsz
   go_enter Tryz.func61, Tryz.ntmps61
   go_wp2_with (go_at_call 81; refine (D1.out W HI.out).mono ?_; rintro e w' ⟨rfl, hI2⟩; have HI2 := Aside0.mk hI2; clear hI2)
   go_loopg [] n (fun kq w' => ∃ (q : Rd), Aside0 (run names last kq .moreSeq q = some e ∧ q.size ≤ 1099511627775 ∧ kq ≤ n) ∧ Aside0 (RdAt w0 g nm nn cn last w' q))
   case atStart => exact ⟨r1, ⟨HR1.out.1, HR1.out.2, Nat.le_refl _⟩, ⟨HI2.out⟩⟩
   case round =>
    clear HI2 HI HR1 D1
    obtain ⟨q, hq, HI⟩ := hrel
    cases gk with
    | zero => have := hq.out.1; rw [run] at this; cases this
    | succ k1 =>
     have hrun := hq.out.1
     have hqs := hq.out.2.1
     have hkn := hq.out.2.2
     rw [run] at hrun
     by_cases hn : q.next = [59]
     ·rw [if_pos hn] at hrun
      have hws := next_ws (by decide) hn
      have hps := pop_size q
      cases h2 : run names last k1 .star q.pop with
      | none => rw [h2] at hrun; cases hrun
      | some e2 =>
       rw [h2] at hrun
       have D2 := Aside0.mk (DB.out k1 (by omega) q.pop e2 h2 (by omega))
       have HT := Aside0.mk (fun W h => take_calls w0 g nm nn cn last q [59] (by decide) W h)
       rw [if_pos hn, decide_eq_true hn] at HT
       have HN := Aside0.mk hn
       clear hn
       cases e2 with
       | stop er a =>
        obtain rfl : e = .stop er a := by cases hrun; rfl
        clear hrun h2
        go_wp2_with (first | (go_at_call 79; refine (HT.out _ HI.out).mono ?_; rintro e w' ⟨rfl, hI3⟩; have HI3 := Aside0.mk hI3; clear hI3) | (go_at_call 81; refine (D2.out _ HI3.out).mono ?_; rintro e w' ⟨rfl, hb⟩; unfold thrown))
        exact ⟨rfl, rfl, hb⟩
       | go r2 =>
        have hr2 := SB.out k1 (by omega) q.pop r2 h2
        have hgo : run names last k1 .moreSeq (r2.put 22) = some e := hrun
        have hlo : r2.out.length ≤ 1099511627776 := by have h7 : r2.out.length ≤ r2.size := Nat.le_add_right _ _; omega
        have hsp : (r2.put 22).size ≤ 1099511627775 := by
         have h5 : q.pop.size + 1 ≤ q.size := by
          unfold Rd.size Rd.pop
          show q.out.length + (q.ws.drop 1).length + 1 ≤ _
          rw [List.length_drop]; omega
         have h6 : (r2.put 22).size = r2.size + 1 := by
          unfold Rd.size Rd.put
          show (r2.out ++ [_]).length + r2.ws.length = _
          rw [List.length_append, List.length_cons, List.length_nil]; omega
         omega
        have HP := Aside0.mk (fun W h => put_calls w0 g nm nn cn last r2 22 hlo W h)
        have HG := Aside0.mk (show run names last k1 .moreSeq (r2.put 22) = some e ∧ (r2.put 22).size ≤ 1099511627775 ∧ k1 ≤ n from ⟨hgo, hsp, by omega⟩)
        clear hrun h2 hr2 hlo hgo hsp hqs hps hkn
        go_wp2_with (first | (go_at_call 79; refine (HT.out _ HI.out).mono ?_; rintro e w' ⟨rfl, hI3⟩; have HI3 := Aside0.mk hI3; clear hI3) | (go_at_call 81; refine (D2.out _ HI3.out).mono ?_; rintro e w' ⟨rfl, hI4⟩; have HI4 := Aside0.mk hI4; clear hI4) | (go_at_call 80; refine (HP.out _ HI4.out).mono ?_; rintro e w' ⟨rfl, hI5⟩; have HI5 := Aside0.mk hI5; clear hI5))
        go_roundg k1
        case measure => exact Nat.lt_succ_self _
        case rel => exact ⟨r2.put 22, HG, HI5⟩
     ·rw [if_neg hn] at hrun
      obtain rfl : e = .go q := by cases hrun; rfl
      have HT := Aside0.mk (fun W h => take_calls w0 g nm nn cn last q [59] (by decide) W h)
      rw [if_neg hn, decide_eq_false hn] at HT
      clear hrun hn
      go_wp2_with (first | (go_at_call 79; refine (HT.out _ HI.out).mono ?_; rintro e w' ⟨rfl, hI3⟩))
      go_end0
      exact ⟨rfl, hI3⟩
set_option maxHeartbeats 4000000 in
set_option maxRecDepth 100000 in
theorem seq_does (names : List ByteArray) (w0 : World) (g : Nat) (nm : Option Addr) (nn cn : Nat) (last : Int) (n : Nat) (sB : ∀ m, m ≤ n → Slim names last m .star) (dB : ∀ m, m ≤ n → Does names w0 g nm nn cn last m .star) :
  Does names w0 g nm nn cn last (n + 1) .seq := by
 intro r e hrun hsz W hI
 rw [run] at hrun
 have HL := Aside0.mk (left_seq names w0 g nm nn cn last n sB dB r e hrun hsz W hI)
 clear hrun hsz hI sB dB
 show Calls Tryz.prog 62 _ W _
 cases e with
 | go r' =>
  go_enter Tryz.func62, Tryz.ntmps62
  go_wp2_with (go_at_call 61; refine HL.out.mono ?_; rintro e w' ⟨rfl, hI2⟩)
  go_end0
  exact ⟨rfl, hI2⟩
 | stop er a =>
  go_enter Tryz.func62, Tryz.ntmps62
  go_wp2_with (go_at_call 61; refine HL.out.mono ?_; rintro e w' ⟨rfl, hb⟩; unfold thrown)
  exact ⟨rfl, rfl, hb⟩
set_option maxHeartbeats 4000000 in
set_option maxRecDepth 100000 in
theorem star_does (names : List ByteArray) (w0 : World) (g : Nat) (nm : Option Addr) (nn cn : Nat) (last : Int) (n : Nat) (dB : Does names w0 g nm nn cn last n .bare) : Does names w0 g nm nn cn last (n + 1) .star := by
 intro r e hrun hsz W hI
 rw [run] at hrun
 have HI := Aside0.mk hI
 clear hI
 cases h1 : run names last n .bare r with
 | none => rw [h1] at hrun; cases hrun
 | some e1 =>
  rw [h1] at hrun
  have D1 := Aside0.mk (dB r e1 h1 hsz)
  show Calls Tryz.prog 81 _ W _
  cases e1 with
  | stop er a =>
   obtain rfl : e = .stop er a := by cases hrun; rfl
   clear hrun h1
   go_enter Tryz.func81, Tryz.ntmps81
   go_wp2_with (go_at_call 94; refine (D1.out W HI.out).mono ?_; rintro e w' ⟨rfl, hb⟩; unfold thrown)
   exact ⟨rfl, rfl, hb⟩
  | go r1 =>
   have hr1 := run_slim names last n .bare r r1 h1
   have hrun2 : run names last n .stars r1 = some e := hrun
   have HR1 := Aside0.mk (show run names last n .stars r1 = some e ∧ r1.size ≤ 1099511627775 from ⟨hrun2, by omega⟩)
   clear hrun hrun2 hr1 h1 hsz
   go_enter Tryz.func81, Tryz.ntmps81
   go_wp2_with (go_at_call 94; refine (D1.out W HI.out).mono ?_; rintro e w' ⟨rfl, hI2⟩; have HI2 := Aside0.mk hI2; clear hI2)
   go_loopg [] n (fun kq w' => ∃ (q : Rd), Aside0 (run names last kq .stars q = some e ∧ q.size ≤ 1099511627775) ∧ Aside0 (RdAt w0 g nm nn cn last w' q))
   case atStart => exact ⟨r1, HR1, HI2⟩
   case round =>
    clear HI2 HI HR1 D1
    obtain ⟨q, hq, HI⟩ := hrel
    cases gk with
    | zero => have := hq.out.1; rw [run] at this; cases this
    | succ k1 =>
     have hrun := hq.out.1
     have hqs := hq.out.2
     rw [run] at hrun
     by_cases hn : q.next = [42]
     ·rw [if_pos hn] at hrun
      have hps := pop_one (next_ws (by decide) hn)
      have hlo : q.pop.out.length ≤ 1099511627776 := by have h7 : q.pop.out.length ≤ q.pop.size := Nat.le_add_right _ _; omega
      have hsp : (q.pop.put 23).size ≤ 1099511627775 := by rw [put_one]; omega
      have HT := Aside0.mk (fun W h => take_calls w0 g nm nn cn last q [42] (by decide) W h)
      rw [if_pos hn, decide_eq_true hn] at HT
      have HP := Aside0.mk (fun W h => put_calls w0 g nm nn cn last q.pop 23 hlo W h)
      have HG := Aside0.mk (show run names last k1 .stars (q.pop.put 23) = some e ∧ (q.pop.put 23).size ≤ 1099511627775 from ⟨hrun, hsp⟩)
      clear hrun hlo hsp hqs hps hn
      go_wp2_with (first | (go_at_call 79; refine (HT.out _ HI.out).mono ?_; rintro e w' ⟨rfl, hI3⟩; have HI3 := Aside0.mk hI3; clear hI3) | (go_at_call 80; refine (HP.out _ HI3.out).mono ?_; rintro e w' ⟨rfl, hI5⟩; have HI5 := Aside0.mk hI5; clear hI5))
      go_roundg k1
      case measure => exact Nat.lt_succ_self _
      case rel => exact ⟨q.pop.put 23, HG, HI5⟩
     ·rw [if_neg hn] at hrun
      obtain rfl : e = .go q := by cases hrun; rfl
      have HT := Aside0.mk (fun W h => take_calls w0 g nm nn cn last q [42] (by decide) W h)
      rw [if_neg hn, decide_eq_false hn] at HT
      clear hrun hn
      go_wp2_with (first | (go_at_call 79; refine (HT.out _ HI.out).mono ?_; rintro e w' ⟨rfl, hI3⟩))
      go_end0
      exact ⟨rfl, hI3⟩
set_option maxHeartbeats 4000000 in
set_option maxRecDepth 100000 in
theorem til_does (names : List ByteArray) (w0 : World) (g : Nat) (nm : Option Addr) (nn cn : Nat) (last : Int) (n : Nat) (dUn : Does names w0 g nm nn cn last n .unary) (dTil : Does names w0 g nm nn cn last n .til) : Does names w0 g nm nn cn last (n + 1) .til := by
 intro r e hrun hsz W hI
 rw [run] at hrun
 have HI := Aside0.mk hI
 clear hI
 cases h1 : run names last n .unary r with
 | none => rw [h1] at hrun; cases hrun
 | some e1 =>
  rw [h1] at hrun
  have D1 := Aside0.mk (fun W h => dUn r e1 h1 hsz W h)
  show Calls Tryz.prog 99 _ W _
  cases e1 with
  | stop er a =>
   obtain rfl : e = .stop er a := by cases hrun; rfl
   clear hrun h1
   go_enter Tryz.func99, Tryz.ntmps99
   go_wp2_with (go_at_call 98; refine (D1.out W HI.out).mono ?_; rintro e w' ⟨rfl, hb⟩; unfold thrown)
   exact ⟨rfl, rfl, hb⟩
  | go r1 =>
   have hr1 := run_slim names last n .unary r r1 h1
   clear h1
   have HX := Aside0.mk (fun W h => next_calls w0 g nm nn cn last r1 W h)
   have hrun2 : (if r1.next = [85] then thenDo (run names last n .til r1.pop) (fun r => some (.go (r.put 15))) else if r1.next = [82] then thenDo (run names last n .til r1.pop) (fun r => some (.go (r.put 16))) else some (.go r1)) = some e := hrun
   clear hrun
   by_cases hn : r1.next = [85]
   ·rw [if_pos hn] at hrun2
    have hws := next_ws (by decide) hn
    have hps := pop_one hws
    have e1 : ((bytesB r1.next).toList == ([85] : List UInt8)) = true := by rw [bytes_eq, hn]; rfl
    cases h2 : run names last n .til r1.pop with
    | none => rw [h2] at hrun2; cases hrun2
    | some e2 =>
     rw [h2] at hrun2
     have D2 := Aside0.mk (dTil r1.pop e2 h2 (by omega))
     have HW := Aside0.mk (fun W h => want_calls w0 g nm nn cn last r1 [85] (by decide) W h)
     unfold wantE at HW
     rw [if_pos hn] at HW
     clear hn hws
     cases e2 with
     | stop er a =>
      obtain rfl : e = .stop er a := by cases hrun2; rfl
      clear hrun2 h2
      go_enter Tryz.func99, Tryz.ntmps99
      go_wp2_with (first | (go_at_call 98; refine (D1.out _ HI.out).mono ?_; rintro e w' ⟨rfl, hHI2⟩; have HI2 := Aside0.mk hHI2; clear hHI2) | (go_at_call 93; refine (HX.out _ HI2.out).mono ?_; rintro e w' ⟨rfl, ⟨nd, rfl⟩⟩; have HI3 := Aside0.mk (RdAt.drewN HI2.out nd)) | (go_at_call 97; refine (HW.out _ HI3.out).mono ?_; rintro e w' ⟨rfl, hHI4⟩; have HI4 := Aside0.mk hHI4; clear hHI4) | (go_at_call 99; refine (D2.out _ HI4.out).mono ?_; rintro e w' ⟨rfl, hb⟩; unfold thrown))
      exact ⟨rfl, rfl, hb⟩
     | go r2 =>
      obtain rfl : e = .go (r2.put 15) := by cases hrun2; rfl
      have hr2 := run_slim names last n .til r1.pop r2 h2
      have hlo : r2.out.length ≤ 1099511627776 := by have h7 : r2.out.length ≤ r2.size := Nat.le_add_right _ _; omega
      have HP := Aside0.mk (fun W h => put_calls w0 g nm nn cn last r2 15 hlo W h)
      clear hrun2 h2 hr2 hlo
      go_enter Tryz.func99, Tryz.ntmps99
      go_wp2_with (first | (go_at_call 98; refine (D1.out _ HI.out).mono ?_; rintro e w' ⟨rfl, hHI2⟩; have HI2 := Aside0.mk hHI2; clear hHI2) | (go_at_call 93; refine (HX.out _ HI2.out).mono ?_; rintro e w' ⟨rfl, ⟨nd, rfl⟩⟩; have HI3 := Aside0.mk (RdAt.drewN HI2.out nd)) | (go_at_call 97; refine (HW.out _ HI3.out).mono ?_; rintro e w' ⟨rfl, hHI4⟩; have HI4 := Aside0.mk hHI4; clear hHI4) | (go_at_call 99; refine (D2.out _ HI4.out).mono ?_; rintro e w' ⟨rfl, hHI5⟩; have HI5 := Aside0.mk hHI5; clear hHI5) | (go_at_call 80; refine (HP.out _ HI5.out).mono ?_; rintro e w' ⟨rfl, hHI6⟩; have HI6 := Aside0.mk hHI6; clear hHI6))
      go_end0
      exact ⟨rfl, HI6.out⟩
   rw [if_neg hn] at hrun2
   have e0 : ((bytesB r1.next).toList == ([85] : List UInt8)) = false := by rw [bytes_eq, beq_eq_false_iff_ne]; exact hn
   clear hn
   by_cases hn : r1.next = [82]
   ·rw [if_pos hn] at hrun2
    have hws := next_ws (by decide) hn
    have hps := pop_one hws
    have e1 : ((bytesB r1.next).toList == ([82] : List UInt8)) = true := by rw [bytes_eq, hn]; rfl
    cases h2 : run names last n .til r1.pop with
    | none => rw [h2] at hrun2; cases hrun2
    | some e2 =>
     rw [h2] at hrun2
     have D2 := Aside0.mk (dTil r1.pop e2 h2 (by omega))
     have HW := Aside0.mk (fun W h => want_calls w0 g nm nn cn last r1 [82] (by decide) W h)
     unfold wantE at HW
     rw [if_pos hn] at HW
     clear hn hws
     cases e2 with
     | stop er a =>
      obtain rfl : e = .stop er a := by cases hrun2; rfl
      clear hrun2 h2
      go_enter Tryz.func99, Tryz.ntmps99
      go_wp2_with (first | (go_at_call 98; refine (D1.out _ HI.out).mono ?_; rintro e w' ⟨rfl, hHI2⟩; have HI2 := Aside0.mk hHI2; clear hHI2) | (go_at_call 93; refine (HX.out _ HI2.out).mono ?_; rintro e w' ⟨rfl, ⟨nd, rfl⟩⟩; have HI3 := Aside0.mk (RdAt.drewN HI2.out nd)) | (go_at_call 97; refine (HW.out _ HI3.out).mono ?_; rintro e w' ⟨rfl, hHI4⟩; have HI4 := Aside0.mk hHI4; clear hHI4) | (go_at_call 99; refine (D2.out _ HI4.out).mono ?_; rintro e w' ⟨rfl, hb⟩; unfold thrown))
      exact ⟨rfl, rfl, hb⟩
     | go r2 =>
      obtain rfl : e = .go (r2.put 16) := by cases hrun2; rfl
      have hr2 := run_slim names last n .til r1.pop r2 h2
      have hlo : r2.out.length ≤ 1099511627776 := by have h7 : r2.out.length ≤ r2.size := Nat.le_add_right _ _; omega
      have HP := Aside0.mk (fun W h => put_calls w0 g nm nn cn last r2 16 hlo W h)
      clear hrun2 h2 hr2 hlo
      go_enter Tryz.func99, Tryz.ntmps99
      go_wp2_with (first | (go_at_call 98; refine (D1.out _ HI.out).mono ?_; rintro e w' ⟨rfl, hHI2⟩; have HI2 := Aside0.mk hHI2; clear hHI2) | (go_at_call 93; refine (HX.out _ HI2.out).mono ?_; rintro e w' ⟨rfl, ⟨nd, rfl⟩⟩; have HI3 := Aside0.mk (RdAt.drewN HI2.out nd)) | (go_at_call 97; refine (HW.out _ HI3.out).mono ?_; rintro e w' ⟨rfl, hHI4⟩; have HI4 := Aside0.mk hHI4; clear hHI4) | (go_at_call 99; refine (D2.out _ HI4.out).mono ?_; rintro e w' ⟨rfl, hHI5⟩; have HI5 := Aside0.mk hHI5; clear hHI5) | (go_at_call 80; refine (HP.out _ HI5.out).mono ?_; rintro e w' ⟨rfl, hHI6⟩; have HI6 := Aside0.mk hHI6; clear hHI6))
      go_end0
      exact ⟨rfl, HI6.out⟩
   ·rw [if_neg hn] at hrun2
    obtain rfl : e = .go r1 := by cases hrun2; rfl
    have e1 : ((bytesB r1.next).toList == ([82] : List UInt8)) = false := by rw [bytes_eq, beq_eq_false_iff_ne]; exact hn
    clear hrun2 hn
    go_enter Tryz.func99, Tryz.ntmps99
    go_wp2_with (first | (go_at_call 98; refine (D1.out _ HI.out).mono ?_; rintro e w' ⟨rfl, hHI2⟩; have HI2 := Aside0.mk hHI2; clear hHI2) | (go_at_call 93; refine (HX.out _ HI2.out).mono ?_; rintro e w' ⟨rfl, ⟨nd, rfl⟩⟩; have HI3 := Aside0.mk (RdAt.drewN HI2.out nd)))
    go_end0
    exact ⟨rfl, HI3.out⟩
set_option maxHeartbeats 8000000 in
set_option maxRecDepth 100000 in
theorem bare_does (names : List ByteArray) (w0 : World) (g : Nat) (nm : Option Addr) (nn cn : Nat) (last : Int) (n : Nat) (d_iff : Does names w0 g nm nn cn last n .iff) (d_unary : Does names w0 g nm nn cn last n .unary) (d_plus : Does names w0 g nm nn cn last n .plus) : Does names w0 g nm nn cn last (n + 1) .bare := by
 intro r e hrun hsz W hI
 rw [run] at hrun
 have HI := Aside0.mk hI
 clear hI
 show Calls Tryz.prog 94 _ W _
 by_cases hn : r.next = [123]
 ·rw [if_pos hn] at hrun
  have hws := next_ws (by decide) hn
  have hps := pop_one hws
  have T0 := Aside0.mk (fun W h => take_calls w0 g nm nn cn last r [123] (by decide) W h)
  rw [if_pos hn, decide_eq_true hn] at T0
  clear hn hws
  cases h2 : run names last n .iff r.pop with
  | none => rw [h2] at hrun; cases hrun
  | some e2 =>
   rw [h2] at hrun
   have D2 := Aside0.mk (d_iff r.pop e2 h2 (by omega))
   cases e2 with
   | stop er a =>
    obtain rfl : e = .stop er a := by cases hrun; rfl
    clear hrun h2
    go_enter Tryz.func94, Tryz.ntmps94
    go_wp2_with (first | (go_at_call 79; refine (T0.out _ HI.out).mono ?_; rintro e w' ⟨rfl, hK0⟩; have K0 := Aside0.mk hK0; clear hK0 T0) | (go_at_call 48; refine (D2.out _ K0.out).mono ?_; rintro e w' ⟨rfl, hb⟩; unfold thrown))
    exact ⟨rfl, rfl, hb⟩
   | go r2 =>
    have hr2 := run_slim names last n .iff r.pop r2 h2
    have hlo : r2.out.length ≤ 1099511627776 := by have h7 : r2.out.length ≤ r2.size := Nat.le_add_right _ _; omega
    clear h2 hr2
    have hrun3 : (if r2.next = [125] then some (.go (r2.pop.put 19)) else some (r2.fail last 150)) = some e := hrun
    clear hrun
    have HW := Aside0.mk (fun W h => want_calls w0 g nm nn cn last r2 [125] (by decide) W h)
    unfold wantE at HW
    by_cases hm : r2.next = [125]
    ·rw [if_pos hm] at hrun3 HW
     obtain rfl : e = .go (r2.pop.put 19) := by cases hrun3; rfl
     have hlo2 : r2.pop.out.length ≤ 1099511627776 := hlo
     have HP := Aside0.mk (fun W h => put_calls w0 g nm nn cn last r2.pop 19 hlo2 W h)
     clear hrun3 hlo hlo2 hm
     go_enter Tryz.func94, Tryz.ntmps94
     go_wp2_with (first | (go_at_call 79; refine (T0.out _ HI.out).mono ?_; rintro e w' ⟨rfl, hK0⟩; have K0 := Aside0.mk hK0; clear hK0 T0) | (go_at_call 48; refine (D2.out _ K0.out).mono ?_; rintro e w' ⟨rfl, hG2⟩; have G2 := Aside0.mk hG2; clear hG2 D2) | (go_at_call 97; refine (HW.out _ G2.out).mono ?_; rintro e w' ⟨rfl, hG3⟩; have G3 := Aside0.mk hG3; clear hG3 HW) | (go_at_call 80; refine (HP.out _ G3.out).mono ?_; rintro e w' ⟨rfl, hG4⟩; have G4 := Aside0.mk hG4; clear hG4 HP))
     go_end0
     exact ⟨rfl, G4.out⟩
    ·rw [if_neg hm] at hrun3 HW
     obtain rfl : e = r2.fail last 150 := by cases hrun3; rfl
     clear hrun3 hlo hm
     go_enter Tryz.func94, Tryz.ntmps94
     go_wp2_with (first | (go_at_call 79; refine (T0.out _ HI.out).mono ?_; rintro e w' ⟨rfl, hK0⟩; have K0 := Aside0.mk hK0; clear hK0 T0) | (go_at_call 48; refine (D2.out _ K0.out).mono ?_; rintro e w' ⟨rfl, hG2⟩; have G2 := Aside0.mk hG2; clear hG2 D2) | (go_at_call 97; refine (HW.out _ G2.out).mono ?_; rintro e w' ⟨rfl, hb⟩; unfold thrown))
     exact ⟨rfl, rfl, hb⟩
 rw [if_neg hn] at hrun
 have T0 := Aside0.mk (fun W h => take_calls w0 g nm nn cn last r [123] (by decide) W h)
 rw [if_neg hn, decide_eq_false hn] at T0
 clear hn
 by_cases hn : r.next = [63]
 ·rw [if_pos hn] at hrun
  have hws := next_ws (by decide) hn
  have hps := pop_one hws
  have T1 := Aside0.mk (fun W h => take_calls w0 g nm nn cn last r [63] (by decide) W h)
  rw [if_pos hn, decide_eq_true hn] at T1
  clear hn hws
  cases h2 : run names last n .unary r.pop with
  | none => rw [h2] at hrun; cases hrun
  | some e2 =>
   rw [h2] at hrun
   have D2 := Aside0.mk (d_unary r.pop e2 h2 (by omega))
   cases e2 with
   | stop er a =>
    obtain rfl : e = .stop er a := by cases hrun; rfl
    clear hrun h2
    go_enter Tryz.func94, Tryz.ntmps94
    go_wp2_with (first | (go_at_call 79; refine (T0.out _ HI.out).mono ?_; rintro e w' ⟨rfl, hK0⟩; have K0 := Aside0.mk hK0; clear hK0 T0) | (go_at_call 79; refine (T1.out _ K0.out).mono ?_; rintro e w' ⟨rfl, hK1⟩; have K1 := Aside0.mk hK1; clear hK1 T1) | (go_at_call 98; refine (D2.out _ K1.out).mono ?_; rintro e w' ⟨rfl, hb⟩; unfold thrown))
    exact ⟨rfl, rfl, hb⟩
   | go r2 =>
    have hr2 := run_slim names last n .unary r.pop r2 h2
    have hlo : r2.out.length ≤ 1099511627776 := by have h7 : r2.out.length ≤ r2.size := Nat.le_add_right _ _; omega
    clear h2 hr2
    obtain rfl : e = .go (r2.put 20) := by cases hrun; rfl
    have HP := Aside0.mk (fun W h => put_calls w0 g nm nn cn last r2 20 hlo W h)
    clear hrun hlo
    go_enter Tryz.func94, Tryz.ntmps94
    go_wp2_with (first | (go_at_call 79; refine (T0.out _ HI.out).mono ?_; rintro e w' ⟨rfl, hK0⟩; have K0 := Aside0.mk hK0; clear hK0 T0) | (go_at_call 79; refine (T1.out _ K0.out).mono ?_; rintro e w' ⟨rfl, hK1⟩; have K1 := Aside0.mk hK1; clear hK1 T1) | (go_at_call 98; refine (D2.out _ K1.out).mono ?_; rintro e w' ⟨rfl, hG2⟩; have G2 := Aside0.mk hG2; clear hG2 D2) | (go_at_call 80; refine (HP.out _ G2.out).mono ?_; rintro e w' ⟨rfl, hG3⟩; have G3 := Aside0.mk hG3; clear hG3 HP))
    go_end0
    exact ⟨rfl, G3.out⟩
 rw [if_neg hn] at hrun
 have T1 := Aside0.mk (fun W h => take_calls w0 g nm nn cn last r [63] (by decide) W h)
 rw [if_neg hn, decide_eq_false hn] at T1
 clear hn
 by_cases hn : r.next = [40]
 ·rw [if_pos hn] at hrun
  have hws := next_ws (by decide) hn
  have hps := pop_one hws
  have T2 := Aside0.mk (fun W h => take_calls w0 g nm nn cn last r [40] (by decide) W h)
  rw [if_pos hn, decide_eq_true hn] at T2
  clear hn hws
  cases h2 : run names last n .plus r.pop with
  | none => rw [h2] at hrun; cases hrun
  | some e2 =>
   rw [h2] at hrun
   have D2 := Aside0.mk (d_plus r.pop e2 h2 (by omega))
   cases e2 with
   | stop er a =>
    obtain rfl : e = .stop er a := by cases hrun; rfl
    clear hrun h2
    go_enter Tryz.func94, Tryz.ntmps94
    go_wp2_with (first | (go_at_call 79; refine (T0.out _ HI.out).mono ?_; rintro e w' ⟨rfl, hK0⟩; have K0 := Aside0.mk hK0; clear hK0 T0) | (go_at_call 79; refine (T1.out _ K0.out).mono ?_; rintro e w' ⟨rfl, hK1⟩; have K1 := Aside0.mk hK1; clear hK1 T1) | (go_at_call 79; refine (T2.out _ K1.out).mono ?_; rintro e w' ⟨rfl, hK2⟩; have K2 := Aside0.mk hK2; clear hK2 T2) | (go_at_call 47; refine (D2.out _ K2.out).mono ?_; rintro e w' ⟨rfl, hb⟩; unfold thrown))
    exact ⟨rfl, rfl, hb⟩
   | go r2 =>
    have hr2 := run_slim names last n .plus r.pop r2 h2
    have hlo : r2.out.length ≤ 1099511627776 := by have h7 : r2.out.length ≤ r2.size := Nat.le_add_right _ _; omega
    clear h2 hr2
    have hrun3 : (if r2.next = [41] then some (.go (r2.pop)) else some (r2.fail last 150)) = some e := hrun
    clear hrun
    have HW := Aside0.mk (fun W h => want_calls w0 g nm nn cn last r2 [41] (by decide) W h)
    unfold wantE at HW
    by_cases hm : r2.next = [41]
    ·rw [if_pos hm] at hrun3 HW
     obtain rfl : e = .go (r2.pop) := by cases hrun3; rfl
     clear hrun3 hlo hm
     go_enter Tryz.func94, Tryz.ntmps94
     go_wp2_with (first | (go_at_call 79; refine (T0.out _ HI.out).mono ?_; rintro e w' ⟨rfl, hK0⟩; have K0 := Aside0.mk hK0; clear hK0 T0) | (go_at_call 79; refine (T1.out _ K0.out).mono ?_; rintro e w' ⟨rfl, hK1⟩; have K1 := Aside0.mk hK1; clear hK1 T1) | (go_at_call 79; refine (T2.out _ K1.out).mono ?_; rintro e w' ⟨rfl, hK2⟩; have K2 := Aside0.mk hK2; clear hK2 T2) | (go_at_call 47; refine (D2.out _ K2.out).mono ?_; rintro e w' ⟨rfl, hG2⟩; have G2 := Aside0.mk hG2; clear hG2 D2) | (go_at_call 97; refine (HW.out _ G2.out).mono ?_; rintro e w' ⟨rfl, hG3⟩; have G3 := Aside0.mk hG3; clear hG3 HW))
     go_end0
     exact ⟨rfl, G3.out⟩
    ·rw [if_neg hm] at hrun3 HW
     obtain rfl : e = r2.fail last 150 := by cases hrun3; rfl
     clear hrun3 hlo hm
     go_enter Tryz.func94, Tryz.ntmps94
     go_wp2_with (first | (go_at_call 79; refine (T0.out _ HI.out).mono ?_; rintro e w' ⟨rfl, hK0⟩; have K0 := Aside0.mk hK0; clear hK0 T0) | (go_at_call 79; refine (T1.out _ K0.out).mono ?_; rintro e w' ⟨rfl, hK1⟩; have K1 := Aside0.mk hK1; clear hK1 T1) | (go_at_call 79; refine (T2.out _ K1.out).mono ?_; rintro e w' ⟨rfl, hK2⟩; have K2 := Aside0.mk hK2; clear hK2 T2) | (go_at_call 47; refine (D2.out _ K2.out).mono ?_; rintro e w' ⟨rfl, hG2⟩; have G2 := Aside0.mk hG2; clear hG2 D2) | (go_at_call 97; refine (HW.out _ G2.out).mono ?_; rintro e w' ⟨rfl, hb⟩; unfold thrown))
     exact ⟨rfl, rfl, hb⟩
 rw [if_neg hn] at hrun
 have T2 := Aside0.mk (fun W h => take_calls w0 g nm nn cn last r [40] (by decide) W h)
 rw [if_neg hn, decide_eq_false hn] at T2
 clear hn
 obtain rfl : e = r.fail last 150 := by cases hrun; rfl
 have HF := Aside0.mk (fun W h => fail_calls w0 g nm nn cn last r 150 W h)
 clear hrun
 go_enter Tryz.func94, Tryz.ntmps94
 go_wp2_with (first | (go_at_call 79; refine (T0.out _ HI.out).mono ?_; rintro e w' ⟨rfl, hK0⟩; have K0 := Aside0.mk hK0; clear hK0 T0) | (go_at_call 79; refine (T1.out _ K0.out).mono ?_; rintro e w' ⟨rfl, hK1⟩; have K1 := Aside0.mk hK1; clear hK1 T1) | (go_at_call 79; refine (T2.out _ K1.out).mono ?_; rintro e w' ⟨rfl, hK2⟩; have K2 := Aside0.mk hK2; clear hK2 T2) | (go_at_call 49; refine (HF.out _ K2.out).mono ?_; rintro e w' ⟨rfl, hb⟩; unfold thrown))
 exact ⟨rfl, rfl, hb⟩
set_option maxHeartbeats 4000000 in
set_option maxRecDepth 100000 in
theorem modal_dia (names : List ByteArray) (w0 : World) (g : Nat) (nm : Option Addr) (nn cn : Nat) (last : Int) (n : Nat) (d_plus : Does names w0 g nm nn cn last n .plus) (d_unary : Does names w0 g nm nn cn last n .unary)
  (r : Rd) (e : End) (hn : r.next = [60]) (hrun : thenDo (run names last n .plus r.pop) (fun r => r.want last [62] (fun r => thenDo (run names last n .unary r) (fun r => some (.go (r.put 17))))) = some e) (hsz : r.size ≤ 1099511627775) (W : World) (hI : RdAt w0 g nm nn cn last W r) :
  Calls Tryz.prog 102 #[.pointer (some ⟨g, 0, none⟩), .string (bytesB [60]), .string (bytesB [62]), .int .u8 17] W (Told w0 g nm nn cn last e) := by
 have HI := Aside0.mk hI
 clear hI
 have hps := pop_one (next_ws (by decide) hn)
 have W1 := Aside0.mk (fun W h => want_calls w0 g nm nn cn last r [60] (by decide) W h)
 unfold wantE at W1
 rw [if_pos hn] at W1
 clear hn
 cases h1 : run names last n .plus r.pop with
 | none => rw [h1] at hrun; cases hrun
 | some e1 =>
  rw [h1] at hrun
  have D1 := Aside0.mk (d_plus r.pop e1 h1 (by omega))
  cases e1 with
  | stop er a =>
   obtain rfl : e = .stop er a := by cases hrun; rfl
   clear hrun h1
   go_enter Tryz.func102, Tryz.ntmps102
   go_wp2_with (first | (go_at_call 97; refine (W1.out _ HI.out).mono ?_; rintro e w' ⟨rfl, hK1⟩; have K1 := Aside0.mk hK1; clear hK1 W1) | (go_at_call 47; refine (D1.out _ K1.out).mono ?_; rintro e w' ⟨rfl, hb⟩; unfold thrown))
   exact ⟨rfl, rfl, hb⟩
  | go r1 =>
   have hr1 := run_slim names last n .plus r.pop r1 h1
   clear h1
   have hrun2 : (if r1.next = [62] then thenDo (run names last n .unary r1.pop) (fun r => some (.go (r.put 17))) else some (r1.fail last 150)) = some e := hrun
   clear hrun
   have W2 := Aside0.mk (fun W h => want_calls w0 g nm nn cn last r1 [62] (by decide) W h)
   unfold wantE at W2
   by_cases hm : r1.next = [62]
   ·have hps2 := pop_one (next_ws (by decide) hm)
    rw [if_pos hm] at hrun2 W2
    clear hm
    cases h2 : run names last n .unary r1.pop with
    | none => rw [h2] at hrun2; cases hrun2
    | some e2 =>
     rw [h2] at hrun2
     have D2 := Aside0.mk (d_unary r1.pop e2 h2 (by omega))
     cases e2 with
     | stop er a =>
      obtain rfl : e = .stop er a := by cases hrun2; rfl
      clear hrun2 h2
      go_enter Tryz.func102, Tryz.ntmps102
      go_wp2_with (first | (go_at_call 97; refine (W1.out _ HI.out).mono ?_; rintro e w' ⟨rfl, hK1⟩; have K1 := Aside0.mk hK1; clear hK1 W1) | (go_at_call 47; refine (D1.out _ K1.out).mono ?_; rintro e w' ⟨rfl, hK2⟩; have K2 := Aside0.mk hK2; clear hK2 D1) | (go_at_call 97; refine (W2.out _ K2.out).mono ?_; rintro e w' ⟨rfl, hK3⟩; have K3 := Aside0.mk hK3; clear hK3 W2) | (go_at_call 98; refine (D2.out _ K3.out).mono ?_; rintro e w' ⟨rfl, hb⟩; unfold thrown))
      exact ⟨rfl, rfl, hb⟩
     | go r2 =>
      have hr2 := run_slim names last n .unary r1.pop r2 h2
      have hlo : r2.out.length ≤ 1099511627776 := by have h7 : r2.out.length ≤ r2.size := Nat.le_add_right _ _; omega
      obtain rfl : e = .go (r2.put 17) := by cases hrun2; rfl
      have HP := Aside0.mk (fun W h => put_calls w0 g nm nn cn last r2 17 hlo W h)
      clear hrun2 h2 hr2 hlo
      go_enter Tryz.func102, Tryz.ntmps102
      go_wp2_with (first | (go_at_call 97; refine (W1.out _ HI.out).mono ?_; rintro e w' ⟨rfl, hK1⟩; have K1 := Aside0.mk hK1; clear hK1 W1) | (go_at_call 47; refine (D1.out _ K1.out).mono ?_; rintro e w' ⟨rfl, hK2⟩; have K2 := Aside0.mk hK2; clear hK2 D1) | (go_at_call 97; refine (W2.out _ K2.out).mono ?_; rintro e w' ⟨rfl, hK3⟩; have K3 := Aside0.mk hK3; clear hK3 W2) | (go_at_call 98; refine (D2.out _ K3.out).mono ?_; rintro e w' ⟨rfl, hK4⟩; have K4 := Aside0.mk hK4; clear hK4 D2) | (go_at_call 80; refine (HP.out _ K4.out).mono ?_; rintro e w' ⟨rfl, hK5⟩; have K5 := Aside0.mk hK5; clear hK5 HP))
      go_end0
      exact ⟨rfl, K5.out⟩
   ·rw [if_neg hm] at hrun2 W2
    obtain rfl : e = r1.fail last 150 := by cases hrun2; rfl
    clear hrun2 hm
    go_enter Tryz.func102, Tryz.ntmps102
    go_wp2_with (first | (go_at_call 97; refine (W1.out _ HI.out).mono ?_; rintro e w' ⟨rfl, hK1⟩; have K1 := Aside0.mk hK1; clear hK1 W1) | (go_at_call 47; refine (D1.out _ K1.out).mono ?_; rintro e w' ⟨rfl, hK2⟩; have K2 := Aside0.mk hK2; clear hK2 D1) | (go_at_call 97; refine (W2.out _ K2.out).mono ?_; rintro e w' ⟨rfl, hb⟩; unfold thrown))
    exact ⟨rfl, rfl, hb⟩
set_option maxHeartbeats 4000000 in
set_option maxRecDepth 100000 in
theorem modal_box (names : List ByteArray) (w0 : World) (g : Nat) (nm : Option Addr) (nn cn : Nat) (last : Int) (n : Nat) (d_plus : Does names w0 g nm nn cn last n .plus) (d_unary : Does names w0 g nm nn cn last n .unary)
  (r : Rd) (e : End) (hn : r.next = [91]) (hrun : thenDo (run names last n .plus r.pop) (fun r => r.want last [93] (fun r => thenDo (run names last n .unary r) (fun r => some (.go (r.put 18))))) = some e) (hsz : r.size ≤ 1099511627775) (W : World) (hI : RdAt w0 g nm nn cn last W r) :
  Calls Tryz.prog 102 #[.pointer (some ⟨g, 0, none⟩), .string (bytesB [91]), .string (bytesB [93]), .int .u8 18] W (Told w0 g nm nn cn last e) := by
 have HI := Aside0.mk hI
 clear hI
 have hps := pop_one (next_ws (by decide) hn)
 have W1 := Aside0.mk (fun W h => want_calls w0 g nm nn cn last r [91] (by decide) W h)
 unfold wantE at W1
 rw [if_pos hn] at W1
 clear hn
 cases h1 : run names last n .plus r.pop with
 | none => rw [h1] at hrun; cases hrun
 | some e1 =>
  rw [h1] at hrun
  have D1 := Aside0.mk (d_plus r.pop e1 h1 (by omega))
  cases e1 with
  | stop er a =>
   obtain rfl : e = .stop er a := by cases hrun; rfl
   clear hrun h1
   go_enter Tryz.func102, Tryz.ntmps102
   go_wp2_with (first | (go_at_call 97; refine (W1.out _ HI.out).mono ?_; rintro e w' ⟨rfl, hK1⟩; have K1 := Aside0.mk hK1; clear hK1 W1) | (go_at_call 47; refine (D1.out _ K1.out).mono ?_; rintro e w' ⟨rfl, hb⟩; unfold thrown))
   exact ⟨rfl, rfl, hb⟩
  | go r1 =>
   have hr1 := run_slim names last n .plus r.pop r1 h1
   clear h1
   have hrun2 : (if r1.next = [93] then thenDo (run names last n .unary r1.pop) (fun r => some (.go (r.put 18))) else some (r1.fail last 150)) = some e := hrun
   clear hrun
   have W2 := Aside0.mk (fun W h => want_calls w0 g nm nn cn last r1 [93] (by decide) W h)
   unfold wantE at W2
   by_cases hm : r1.next = [93]
   ·have hps2 := pop_one (next_ws (by decide) hm)
    rw [if_pos hm] at hrun2 W2
    clear hm
    cases h2 : run names last n .unary r1.pop with
    | none => rw [h2] at hrun2; cases hrun2
    | some e2 =>
     rw [h2] at hrun2
     have D2 := Aside0.mk (d_unary r1.pop e2 h2 (by omega))
     cases e2 with
     | stop er a =>
      obtain rfl : e = .stop er a := by cases hrun2; rfl
      clear hrun2 h2
      go_enter Tryz.func102, Tryz.ntmps102
      go_wp2_with (first | (go_at_call 97; refine (W1.out _ HI.out).mono ?_; rintro e w' ⟨rfl, hK1⟩; have K1 := Aside0.mk hK1; clear hK1 W1) | (go_at_call 47; refine (D1.out _ K1.out).mono ?_; rintro e w' ⟨rfl, hK2⟩; have K2 := Aside0.mk hK2; clear hK2 D1) | (go_at_call 97; refine (W2.out _ K2.out).mono ?_; rintro e w' ⟨rfl, hK3⟩; have K3 := Aside0.mk hK3; clear hK3 W2) | (go_at_call 98; refine (D2.out _ K3.out).mono ?_; rintro e w' ⟨rfl, hb⟩; unfold thrown))
      exact ⟨rfl, rfl, hb⟩
     | go r2 =>
      have hr2 := run_slim names last n .unary r1.pop r2 h2
      have hlo : r2.out.length ≤ 1099511627776 := by have h7 : r2.out.length ≤ r2.size := Nat.le_add_right _ _; omega
      obtain rfl : e = .go (r2.put 18) := by cases hrun2; rfl
      have HP := Aside0.mk (fun W h => put_calls w0 g nm nn cn last r2 18 hlo W h)
      clear hrun2 h2 hr2 hlo
      go_enter Tryz.func102, Tryz.ntmps102
      go_wp2_with (first | (go_at_call 97; refine (W1.out _ HI.out).mono ?_; rintro e w' ⟨rfl, hK1⟩; have K1 := Aside0.mk hK1; clear hK1 W1) | (go_at_call 47; refine (D1.out _ K1.out).mono ?_; rintro e w' ⟨rfl, hK2⟩; have K2 := Aside0.mk hK2; clear hK2 D1) | (go_at_call 97; refine (W2.out _ K2.out).mono ?_; rintro e w' ⟨rfl, hK3⟩; have K3 := Aside0.mk hK3; clear hK3 W2) | (go_at_call 98; refine (D2.out _ K3.out).mono ?_; rintro e w' ⟨rfl, hK4⟩; have K4 := Aside0.mk hK4; clear hK4 D2) | (go_at_call 80; refine (HP.out _ K4.out).mono ?_; rintro e w' ⟨rfl, hK5⟩; have K5 := Aside0.mk hK5; clear hK5 HP))
      go_end0
      exact ⟨rfl, K5.out⟩
   ·rw [if_neg hm] at hrun2 W2
    obtain rfl : e = r1.fail last 150 := by cases hrun2; rfl
    clear hrun2 hm
    go_enter Tryz.func102, Tryz.ntmps102
    go_wp2_with (first | (go_at_call 97; refine (W1.out _ HI.out).mono ?_; rintro e w' ⟨rfl, hK1⟩; have K1 := Aside0.mk hK1; clear hK1 W1) | (go_at_call 47; refine (D1.out _ K1.out).mono ?_; rintro e w' ⟨rfl, hK2⟩; have K2 := Aside0.mk hK2; clear hK2 D1) | (go_at_call 97; refine (W2.out _ K2.out).mono ?_; rintro e w' ⟨rfl, hb⟩; unfold thrown))
    exact ⟨rfl, rfl, hb⟩
/-- The words behind the first, stored: the two spellings. -/
theorem RdAt.pop_end {w0 : World} {g : Nat} {nm : Option Addr} {nn cn : Nat} {last : Int} {r : Rd} {W : World} {A : Option Addr} {c : Nat} {vo : Value} (hb : W.heap[g]? = some (.cells #[.slice nm nn cn, .slice A r.ws.length c, .int .i64 last, vo] 96 (0, 0)))
  (hg : w0.heap.size ≤ g) (hC : Kd.C k114 w0 A r.ws.length r.ws) (hc : r.ws.length ≤ c) (hR : Kd.R k41 41 W w0.heap.size (fun k => k ≠ g) vo r.out) (hB : Below w0.heap.size w0 W) (hpos : 1 ≤ r.ws.length) (hc1 : c = 1) :
  RdAt w0 g nm nn cn last (W.setCell ⟨g, 1, none⟩ (.slice A 0 0)) r.pop := by
 have h := RdAt.pop_set hb hg hC hc hR hB hpos
 rw [if_pos hc1, hc1, show r.ws.length - 1 = 0 by omega] at h
 exact h
theorem RdAt.pop_far {w0 : World} {g : Nat} {nm : Option Addr} {nn cn : Nat} {last : Int} {r : Rd} {W : World} {A : Option Addr} {c : Nat} {vo : Value} (hb : W.heap[g]? = some (.cells #[.slice nm nn cn, .slice A r.ws.length c, .int .i64 last, vo] 96 (0, 0)))
  (hg : w0.heap.size ≤ g) (hC : Kd.C k114 w0 A r.ws.length r.ws) (hc : r.ws.length ≤ c) (hR : Kd.R k41 41 W w0.heap.size (fun k => k ≠ g) vo r.out) (hB : Below w0.heap.size w0 W) (hpos : 1 ≤ r.ws.length) (hc1 : ¬ c = 1) :
  RdAt w0 g nm nn cn last (W.setCell ⟨g, 1, none⟩ (.slice (A.map (·.add 3)) (r.ws.length - 1) (c - 1))) r.pop := by
 have h := RdAt.pop_set hb hg hC hc hR hB hpos
 rw [if_neg hc1] at h
 exact h
set_option maxHeartbeats 4000000 in
set_option maxRecDepth 100000 in
theorem unary_pre0 (names : List ByteArray) (w0 : World) (g : Nat) (nm : Option Addr) (nn cn : Nat) (last : Int) (n : Nat) (d_unary : Does names w0 g nm nn cn last n .unary)
  (r : Rd) (e : End) (hn : r.next = [33]) (hrun : thenDo (run names last n .unary r.pop) (fun r => some (.go (r.put 6))) = some e) (hsz : r.size ≤ 1099511627775) (W : World) (hI : RdAt w0 g nm nn cn last W r) :
  Calls Tryz.prog 98 #[.pointer (some ⟨g, 0, none⟩)] W (Told w0 g nm nn cn last e) := by
 have HI := Aside0.mk hI
 obtain ⟨A, c, vo, hb, hg, hC, hc, hR, hB⟩ := hI
 have hpos := next_ws (by decide) hn
 have hps := pop_one hpos
 have HX := Aside0.mk (fun W h => next_calls w0 g nm nn cn last r W h)
 have x0 : ((bytesB r.next).toList == ([33] : List UInt8)) = true := by rw [bytes_eq, hn]; decide
 have d1 : W.cell? ⟨g, 1, none⟩ = some (.slice A r.ws.length c) := (blk_cell hb 1).trans rfl
 have f1 := blk_frozen hb 1
 have g1 := eq_true (show (1 : Int) ≤ (r.ws.length : Int) by omega)
 have g2 := eq_true (show (r.ws.length : Int) ≤ (c : Int) by omega)
 have g3 := eq_true (show 1 ≤ r.ws.length by omega)
 have g4 := eq_true (show r.ws.length ≤ c by omega)
 cases h1 : run names last n .unary r.pop with
 | none => rw [h1] at hrun; cases hrun
 | some e1 =>
  rw [h1] at hrun
  have D1 := Aside0.mk (d_unary r.pop e1 h1 (by omega))
  cases e1 with
  | stop er a =>
   obtain rfl : e = .stop er a := by cases hrun; rfl
   clear hrun h1
   by_cases hc1 : c = 1
   ·have HP0 := Aside0.mk (fun nd => RdAt.pop_end (W := W.drewN nd) hb hg hC hc (Kd.R_drewN hR _) (pw_below_drewN hB _) hpos hc1)
    subst hc1
    have hl1 : Aside0 (r.ws.length = 1) := ⟨by omega⟩
    rw [hl1.out] at d1
    clear hb hg hC hc hR hB hn hps hpos
    clear g1 g2 g3 g4
    go_enter Tryz.func98, Tryz.ntmps98
    go_wp2_with (first | (go_at_call 93; refine (HX.out _ HI.out).mono ?_; rintro e w' ⟨rfl, ⟨nd, rfl⟩⟩) | (go_at_call 98; refine (D1.out _ (HP0.out nd)).mono ?_; rintro e w' ⟨rfl, hb⟩; unfold thrown))
    exact ⟨rfl, rfl, hb⟩
   ·have HP0 := Aside0.mk (fun nd => RdAt.pop_far (W := W.drewN nd) hb hg hC hc (Kd.R_drewN hR _) (pw_below_drewN hB _) hpos hc1)
    clear hb hg hC hc hR hB hn hps hpos
    go_enter Tryz.func98, Tryz.ntmps98
    go_wp2_with (first | (go_at_call 93; refine (HX.out _ HI.out).mono ?_; rintro e w' ⟨rfl, ⟨nd, rfl⟩⟩) | (go_at_call 98; refine (D1.out _ (HP0.out nd)).mono ?_; rintro e w' ⟨rfl, hb⟩; unfold thrown))
    exact ⟨rfl, rfl, hb⟩
  | go r1 =>
   have hr1 := run_slim names last n .unary r.pop r1 h1
   have hlo : r1.out.length ≤ 1099511627776 := by have h7 : r1.out.length ≤ r1.size := Nat.le_add_right _ _; omega
   obtain rfl : e = .go (r1.put 6) := by cases hrun; rfl
   have HP := Aside0.mk (fun W h => put_calls w0 g nm nn cn last r1 6 hlo W h)
   clear hrun h1 hr1 hlo
   by_cases hc1 : c = 1
   ·have HP0 := Aside0.mk (fun nd => RdAt.pop_end (W := W.drewN nd) hb hg hC hc (Kd.R_drewN hR _) (pw_below_drewN hB _) hpos hc1)
    subst hc1
    have hl1 : Aside0 (r.ws.length = 1) := ⟨by omega⟩
    rw [hl1.out] at d1
    clear hb hg hC hc hR hB hn hps hpos
    clear g1 g2 g3 g4
    go_enter Tryz.func98, Tryz.ntmps98
    go_wp2_with (first | (go_at_call 93; refine (HX.out _ HI.out).mono ?_; rintro e w' ⟨rfl, ⟨nd, rfl⟩⟩) | (go_at_call 98; refine (D1.out _ (HP0.out nd)).mono ?_; rintro e w' ⟨rfl, hK2⟩; have K2 := Aside0.mk hK2; clear hK2 D1) | (go_at_call 80; refine (HP.out _ K2.out).mono ?_; rintro e w' ⟨rfl, hK3⟩; have K3 := Aside0.mk hK3; clear hK3 HP))
    go_end0
    exact ⟨rfl, K3.out⟩
   ·have HP0 := Aside0.mk (fun nd => RdAt.pop_far (W := W.drewN nd) hb hg hC hc (Kd.R_drewN hR _) (pw_below_drewN hB _) hpos hc1)
    clear hb hg hC hc hR hB hn hps hpos
    go_enter Tryz.func98, Tryz.ntmps98
    go_wp2_with (first | (go_at_call 93; refine (HX.out _ HI.out).mono ?_; rintro e w' ⟨rfl, ⟨nd, rfl⟩⟩) | (go_at_call 98; refine (D1.out _ (HP0.out nd)).mono ?_; rintro e w' ⟨rfl, hK2⟩; have K2 := Aside0.mk hK2; clear hK2 D1) | (go_at_call 80; refine (HP.out _ K2.out).mono ?_; rintro e w' ⟨rfl, hK3⟩; have K3 := Aside0.mk hK3; clear hK3 HP))
    go_end0
    exact ⟨rfl, K3.out⟩
set_option maxHeartbeats 4000000 in
set_option maxRecDepth 100000 in
theorem unary_pre1 (names : List ByteArray) (w0 : World) (g : Nat) (nm : Option Addr) (nn cn : Nat) (last : Int) (n : Nat) (d_unary : Does names w0 g nm nn cn last n .unary)
  (r : Rd) (e : End) (hn : r.next = [88]) (hrun : thenDo (run names last n .unary r.pop) (fun r => some (.go (r.put 7))) = some e) (hsz : r.size ≤ 1099511627775) (W : World) (hI : RdAt w0 g nm nn cn last W r) :
  Calls Tryz.prog 98 #[.pointer (some ⟨g, 0, none⟩)] W (Told w0 g nm nn cn last e) := by
 have HI := Aside0.mk hI
 obtain ⟨A, c, vo, hb, hg, hC, hc, hR, hB⟩ := hI
 have hpos := next_ws (by decide) hn
 have hps := pop_one hpos
 have HX := Aside0.mk (fun W h => next_calls w0 g nm nn cn last r W h)
 have x0 : ((bytesB r.next).toList == ([33] : List UInt8)) = false := by rw [bytes_eq, hn]; decide
 have x1 : ((bytesB r.next).toList == ([88] : List UInt8)) = true := by rw [bytes_eq, hn]; decide
 have d1 : W.cell? ⟨g, 1, none⟩ = some (.slice A r.ws.length c) := (blk_cell hb 1).trans rfl
 have f1 := blk_frozen hb 1
 have g1 := eq_true (show (1 : Int) ≤ (r.ws.length : Int) by omega)
 have g2 := eq_true (show (r.ws.length : Int) ≤ (c : Int) by omega)
 have g3 := eq_true (show 1 ≤ r.ws.length by omega)
 have g4 := eq_true (show r.ws.length ≤ c by omega)
 cases h1 : run names last n .unary r.pop with
 | none => rw [h1] at hrun; cases hrun
 | some e1 =>
  rw [h1] at hrun
  have D1 := Aside0.mk (d_unary r.pop e1 h1 (by omega))
  cases e1 with
  | stop er a =>
   obtain rfl : e = .stop er a := by cases hrun; rfl
   clear hrun h1
   by_cases hc1 : c = 1
   ·have HP0 := Aside0.mk (fun nd => RdAt.pop_end (W := W.drewN nd) hb hg hC hc (Kd.R_drewN hR _) (pw_below_drewN hB _) hpos hc1)
    subst hc1
    have hl1 : Aside0 (r.ws.length = 1) := ⟨by omega⟩
    rw [hl1.out] at d1
    clear hb hg hC hc hR hB hn hps hpos
    clear g1 g2 g3 g4
    go_enter Tryz.func98, Tryz.ntmps98
    go_wp2_with (first | (go_at_call 93; refine (HX.out _ HI.out).mono ?_; rintro e w' ⟨rfl, ⟨nd, rfl⟩⟩) | (go_at_call 98; refine (D1.out _ (HP0.out nd)).mono ?_; rintro e w' ⟨rfl, hb⟩; unfold thrown))
    exact ⟨rfl, rfl, hb⟩
   ·have HP0 := Aside0.mk (fun nd => RdAt.pop_far (W := W.drewN nd) hb hg hC hc (Kd.R_drewN hR _) (pw_below_drewN hB _) hpos hc1)
    clear hb hg hC hc hR hB hn hps hpos
    go_enter Tryz.func98, Tryz.ntmps98
    go_wp2_with (first | (go_at_call 93; refine (HX.out _ HI.out).mono ?_; rintro e w' ⟨rfl, ⟨nd, rfl⟩⟩) | (go_at_call 98; refine (D1.out _ (HP0.out nd)).mono ?_; rintro e w' ⟨rfl, hb⟩; unfold thrown))
    exact ⟨rfl, rfl, hb⟩
  | go r1 =>
   have hr1 := run_slim names last n .unary r.pop r1 h1
   have hlo : r1.out.length ≤ 1099511627776 := by have h7 : r1.out.length ≤ r1.size := Nat.le_add_right _ _; omega
   obtain rfl : e = .go (r1.put 7) := by cases hrun; rfl
   have HP := Aside0.mk (fun W h => put_calls w0 g nm nn cn last r1 7 hlo W h)
   clear hrun h1 hr1 hlo
   by_cases hc1 : c = 1
   ·have HP0 := Aside0.mk (fun nd => RdAt.pop_end (W := W.drewN nd) hb hg hC hc (Kd.R_drewN hR _) (pw_below_drewN hB _) hpos hc1)
    subst hc1
    have hl1 : Aside0 (r.ws.length = 1) := ⟨by omega⟩
    rw [hl1.out] at d1
    clear hb hg hC hc hR hB hn hps hpos
    clear g1 g2 g3 g4
    go_enter Tryz.func98, Tryz.ntmps98
    go_wp2_with (first | (go_at_call 93; refine (HX.out _ HI.out).mono ?_; rintro e w' ⟨rfl, ⟨nd, rfl⟩⟩) | (go_at_call 98; refine (D1.out _ (HP0.out nd)).mono ?_; rintro e w' ⟨rfl, hK2⟩; have K2 := Aside0.mk hK2; clear hK2 D1) | (go_at_call 80; refine (HP.out _ K2.out).mono ?_; rintro e w' ⟨rfl, hK3⟩; have K3 := Aside0.mk hK3; clear hK3 HP))
    go_end0
    exact ⟨rfl, K3.out⟩
   ·have HP0 := Aside0.mk (fun nd => RdAt.pop_far (W := W.drewN nd) hb hg hC hc (Kd.R_drewN hR _) (pw_below_drewN hB _) hpos hc1)
    clear hb hg hC hc hR hB hn hps hpos
    go_enter Tryz.func98, Tryz.ntmps98
    go_wp2_with (first | (go_at_call 93; refine (HX.out _ HI.out).mono ?_; rintro e w' ⟨rfl, ⟨nd, rfl⟩⟩) | (go_at_call 98; refine (D1.out _ (HP0.out nd)).mono ?_; rintro e w' ⟨rfl, hK2⟩; have K2 := Aside0.mk hK2; clear hK2 D1) | (go_at_call 80; refine (HP.out _ K2.out).mono ?_; rintro e w' ⟨rfl, hK3⟩; have K3 := Aside0.mk hK3; clear hK3 HP))
    go_end0
    exact ⟨rfl, K3.out⟩
set_option maxHeartbeats 4000000 in
set_option maxRecDepth 100000 in
theorem unary_pre2 (names : List ByteArray) (w0 : World) (g : Nat) (nm : Option Addr) (nn cn : Nat) (last : Int) (n : Nat) (d_unary : Does names w0 g nm nn cn last n .unary)
  (r : Rd) (e : End) (hn : r.next = [78]) (hrun : thenDo (run names last n .unary r.pop) (fun r => some (.go (r.put 8))) = some e) (hsz : r.size ≤ 1099511627775) (W : World) (hI : RdAt w0 g nm nn cn last W r) :
  Calls Tryz.prog 98 #[.pointer (some ⟨g, 0, none⟩)] W (Told w0 g nm nn cn last e) := by
 have HI := Aside0.mk hI
 obtain ⟨A, c, vo, hb, hg, hC, hc, hR, hB⟩ := hI
 have hpos := next_ws (by decide) hn
 have hps := pop_one hpos
 have HX := Aside0.mk (fun W h => next_calls w0 g nm nn cn last r W h)
 have x0 : ((bytesB r.next).toList == ([33] : List UInt8)) = false := by rw [bytes_eq, hn]; decide
 have x1 : ((bytesB r.next).toList == ([88] : List UInt8)) = false := by rw [bytes_eq, hn]; decide
 have x2 : ((bytesB r.next).toList == ([78] : List UInt8)) = true := by rw [bytes_eq, hn]; decide
 have d1 : W.cell? ⟨g, 1, none⟩ = some (.slice A r.ws.length c) := (blk_cell hb 1).trans rfl
 have f1 := blk_frozen hb 1
 have g1 := eq_true (show (1 : Int) ≤ (r.ws.length : Int) by omega)
 have g2 := eq_true (show (r.ws.length : Int) ≤ (c : Int) by omega)
 have g3 := eq_true (show 1 ≤ r.ws.length by omega)
 have g4 := eq_true (show r.ws.length ≤ c by omega)
 cases h1 : run names last n .unary r.pop with
 | none => rw [h1] at hrun; cases hrun
 | some e1 =>
  rw [h1] at hrun
  have D1 := Aside0.mk (d_unary r.pop e1 h1 (by omega))
  cases e1 with
  | stop er a =>
   obtain rfl : e = .stop er a := by cases hrun; rfl
   clear hrun h1
   by_cases hc1 : c = 1
   ·have HP0 := Aside0.mk (fun nd => RdAt.pop_end (W := W.drewN nd) hb hg hC hc (Kd.R_drewN hR _) (pw_below_drewN hB _) hpos hc1)
    subst hc1
    have hl1 : Aside0 (r.ws.length = 1) := ⟨by omega⟩
    rw [hl1.out] at d1
    clear hb hg hC hc hR hB hn hps hpos
    clear g1 g2 g3 g4
    go_enter Tryz.func98, Tryz.ntmps98
    go_wp2_with (first | (go_at_call 93; refine (HX.out _ HI.out).mono ?_; rintro e w' ⟨rfl, ⟨nd, rfl⟩⟩) | (go_at_call 98; refine (D1.out _ (HP0.out nd)).mono ?_; rintro e w' ⟨rfl, hb⟩; unfold thrown))
    exact ⟨rfl, rfl, hb⟩
   ·have HP0 := Aside0.mk (fun nd => RdAt.pop_far (W := W.drewN nd) hb hg hC hc (Kd.R_drewN hR _) (pw_below_drewN hB _) hpos hc1)
    clear hb hg hC hc hR hB hn hps hpos
    go_enter Tryz.func98, Tryz.ntmps98
    go_wp2_with (first | (go_at_call 93; refine (HX.out _ HI.out).mono ?_; rintro e w' ⟨rfl, ⟨nd, rfl⟩⟩) | (go_at_call 98; refine (D1.out _ (HP0.out nd)).mono ?_; rintro e w' ⟨rfl, hb⟩; unfold thrown))
    exact ⟨rfl, rfl, hb⟩
  | go r1 =>
   have hr1 := run_slim names last n .unary r.pop r1 h1
   have hlo : r1.out.length ≤ 1099511627776 := by have h7 : r1.out.length ≤ r1.size := Nat.le_add_right _ _; omega
   obtain rfl : e = .go (r1.put 8) := by cases hrun; rfl
   have HP := Aside0.mk (fun W h => put_calls w0 g nm nn cn last r1 8 hlo W h)
   clear hrun h1 hr1 hlo
   by_cases hc1 : c = 1
   ·have HP0 := Aside0.mk (fun nd => RdAt.pop_end (W := W.drewN nd) hb hg hC hc (Kd.R_drewN hR _) (pw_below_drewN hB _) hpos hc1)
    subst hc1
    have hl1 : Aside0 (r.ws.length = 1) := ⟨by omega⟩
    rw [hl1.out] at d1
    clear hb hg hC hc hR hB hn hps hpos
    clear g1 g2 g3 g4
    go_enter Tryz.func98, Tryz.ntmps98
    go_wp2_with (first | (go_at_call 93; refine (HX.out _ HI.out).mono ?_; rintro e w' ⟨rfl, ⟨nd, rfl⟩⟩) | (go_at_call 98; refine (D1.out _ (HP0.out nd)).mono ?_; rintro e w' ⟨rfl, hK2⟩; have K2 := Aside0.mk hK2; clear hK2 D1) | (go_at_call 80; refine (HP.out _ K2.out).mono ?_; rintro e w' ⟨rfl, hK3⟩; have K3 := Aside0.mk hK3; clear hK3 HP))
    go_end0
    exact ⟨rfl, K3.out⟩
   ·have HP0 := Aside0.mk (fun nd => RdAt.pop_far (W := W.drewN nd) hb hg hC hc (Kd.R_drewN hR _) (pw_below_drewN hB _) hpos hc1)
    clear hb hg hC hc hR hB hn hps hpos
    go_enter Tryz.func98, Tryz.ntmps98
    go_wp2_with (first | (go_at_call 93; refine (HX.out _ HI.out).mono ?_; rintro e w' ⟨rfl, ⟨nd, rfl⟩⟩) | (go_at_call 98; refine (D1.out _ (HP0.out nd)).mono ?_; rintro e w' ⟨rfl, hK2⟩; have K2 := Aside0.mk hK2; clear hK2 D1) | (go_at_call 80; refine (HP.out _ K2.out).mono ?_; rintro e w' ⟨rfl, hK3⟩; have K3 := Aside0.mk hK3; clear hK3 HP))
    go_end0
    exact ⟨rfl, K3.out⟩
set_option maxHeartbeats 4000000 in
set_option maxRecDepth 100000 in
theorem unary_pre3 (names : List ByteArray) (w0 : World) (g : Nat) (nm : Option Addr) (nn cn : Nat) (last : Int) (n : Nat) (d_unary : Does names w0 g nm nn cn last n .unary)
  (r : Rd) (e : End) (hn : r.next = [70]) (hrun : thenDo (run names last n .unary r.pop) (fun r => some (.go (r.put 9))) = some e) (hsz : r.size ≤ 1099511627775) (W : World) (hI : RdAt w0 g nm nn cn last W r) :
  Calls Tryz.prog 98 #[.pointer (some ⟨g, 0, none⟩)] W (Told w0 g nm nn cn last e) := by
 have HI := Aside0.mk hI
 obtain ⟨A, c, vo, hb, hg, hC, hc, hR, hB⟩ := hI
 have hpos := next_ws (by decide) hn
 have hps := pop_one hpos
 have HX := Aside0.mk (fun W h => next_calls w0 g nm nn cn last r W h)
 have x0 : ((bytesB r.next).toList == ([33] : List UInt8)) = false := by rw [bytes_eq, hn]; decide
 have x1 : ((bytesB r.next).toList == ([88] : List UInt8)) = false := by rw [bytes_eq, hn]; decide
 have x2 : ((bytesB r.next).toList == ([78] : List UInt8)) = false := by rw [bytes_eq, hn]; decide
 have x3 : ((bytesB r.next).toList == ([70] : List UInt8)) = true := by rw [bytes_eq, hn]; decide
 have d1 : W.cell? ⟨g, 1, none⟩ = some (.slice A r.ws.length c) := (blk_cell hb 1).trans rfl
 have f1 := blk_frozen hb 1
 have g1 := eq_true (show (1 : Int) ≤ (r.ws.length : Int) by omega)
 have g2 := eq_true (show (r.ws.length : Int) ≤ (c : Int) by omega)
 have g3 := eq_true (show 1 ≤ r.ws.length by omega)
 have g4 := eq_true (show r.ws.length ≤ c by omega)
 cases h1 : run names last n .unary r.pop with
 | none => rw [h1] at hrun; cases hrun
 | some e1 =>
  rw [h1] at hrun
  have D1 := Aside0.mk (d_unary r.pop e1 h1 (by omega))
  cases e1 with
  | stop er a =>
   obtain rfl : e = .stop er a := by cases hrun; rfl
   clear hrun h1
   by_cases hc1 : c = 1
   ·have HP0 := Aside0.mk (fun nd => RdAt.pop_end (W := W.drewN nd) hb hg hC hc (Kd.R_drewN hR _) (pw_below_drewN hB _) hpos hc1)
    subst hc1
    have hl1 : Aside0 (r.ws.length = 1) := ⟨by omega⟩
    rw [hl1.out] at d1
    clear hb hg hC hc hR hB hn hps hpos
    clear g1 g2 g3 g4
    go_enter Tryz.func98, Tryz.ntmps98
    go_wp2_with (first | (go_at_call 93; refine (HX.out _ HI.out).mono ?_; rintro e w' ⟨rfl, ⟨nd, rfl⟩⟩) | (go_at_call 98; refine (D1.out _ (HP0.out nd)).mono ?_; rintro e w' ⟨rfl, hb⟩; unfold thrown))
    exact ⟨rfl, rfl, hb⟩
   ·have HP0 := Aside0.mk (fun nd => RdAt.pop_far (W := W.drewN nd) hb hg hC hc (Kd.R_drewN hR _) (pw_below_drewN hB _) hpos hc1)
    clear hb hg hC hc hR hB hn hps hpos
    go_enter Tryz.func98, Tryz.ntmps98
    go_wp2_with (first | (go_at_call 93; refine (HX.out _ HI.out).mono ?_; rintro e w' ⟨rfl, ⟨nd, rfl⟩⟩) | (go_at_call 98; refine (D1.out _ (HP0.out nd)).mono ?_; rintro e w' ⟨rfl, hb⟩; unfold thrown))
    exact ⟨rfl, rfl, hb⟩
  | go r1 =>
   have hr1 := run_slim names last n .unary r.pop r1 h1
   have hlo : r1.out.length ≤ 1099511627776 := by have h7 : r1.out.length ≤ r1.size := Nat.le_add_right _ _; omega
   obtain rfl : e = .go (r1.put 9) := by cases hrun; rfl
   have HP := Aside0.mk (fun W h => put_calls w0 g nm nn cn last r1 9 hlo W h)
   clear hrun h1 hr1 hlo
   by_cases hc1 : c = 1
   ·have HP0 := Aside0.mk (fun nd => RdAt.pop_end (W := W.drewN nd) hb hg hC hc (Kd.R_drewN hR _) (pw_below_drewN hB _) hpos hc1)
    subst hc1
    have hl1 : Aside0 (r.ws.length = 1) := ⟨by omega⟩
    rw [hl1.out] at d1
    clear hb hg hC hc hR hB hn hps hpos
    clear g1 g2 g3 g4
    go_enter Tryz.func98, Tryz.ntmps98
    go_wp2_with (first | (go_at_call 93; refine (HX.out _ HI.out).mono ?_; rintro e w' ⟨rfl, ⟨nd, rfl⟩⟩) | (go_at_call 98; refine (D1.out _ (HP0.out nd)).mono ?_; rintro e w' ⟨rfl, hK2⟩; have K2 := Aside0.mk hK2; clear hK2 D1) | (go_at_call 80; refine (HP.out _ K2.out).mono ?_; rintro e w' ⟨rfl, hK3⟩; have K3 := Aside0.mk hK3; clear hK3 HP))
    go_end0
    exact ⟨rfl, K3.out⟩
   ·have HP0 := Aside0.mk (fun nd => RdAt.pop_far (W := W.drewN nd) hb hg hC hc (Kd.R_drewN hR _) (pw_below_drewN hB _) hpos hc1)
    clear hb hg hC hc hR hB hn hps hpos
    go_enter Tryz.func98, Tryz.ntmps98
    go_wp2_with (first | (go_at_call 93; refine (HX.out _ HI.out).mono ?_; rintro e w' ⟨rfl, ⟨nd, rfl⟩⟩) | (go_at_call 98; refine (D1.out _ (HP0.out nd)).mono ?_; rintro e w' ⟨rfl, hK2⟩; have K2 := Aside0.mk hK2; clear hK2 D1) | (go_at_call 80; refine (HP.out _ K2.out).mono ?_; rintro e w' ⟨rfl, hK3⟩; have K3 := Aside0.mk hK3; clear hK3 HP))
    go_end0
    exact ⟨rfl, K3.out⟩
set_option maxHeartbeats 4000000 in
set_option maxRecDepth 100000 in
theorem unary_pre4 (names : List ByteArray) (w0 : World) (g : Nat) (nm : Option Addr) (nn cn : Nat) (last : Int) (n : Nat) (d_unary : Does names w0 g nm nn cn last n .unary)
  (r : Rd) (e : End) (hn : r.next = [71]) (hrun : thenDo (run names last n .unary r.pop) (fun r => some (.go (r.put 10))) = some e) (hsz : r.size ≤ 1099511627775) (W : World) (hI : RdAt w0 g nm nn cn last W r) :
  Calls Tryz.prog 98 #[.pointer (some ⟨g, 0, none⟩)] W (Told w0 g nm nn cn last e) := by
 have HI := Aside0.mk hI
 obtain ⟨A, c, vo, hb, hg, hC, hc, hR, hB⟩ := hI
 have hpos := next_ws (by decide) hn
 have hps := pop_one hpos
 have HX := Aside0.mk (fun W h => next_calls w0 g nm nn cn last r W h)
 have x0 : ((bytesB r.next).toList == ([33] : List UInt8)) = false := by rw [bytes_eq, hn]; decide
 have x1 : ((bytesB r.next).toList == ([88] : List UInt8)) = false := by rw [bytes_eq, hn]; decide
 have x2 : ((bytesB r.next).toList == ([78] : List UInt8)) = false := by rw [bytes_eq, hn]; decide
 have x3 : ((bytesB r.next).toList == ([70] : List UInt8)) = false := by rw [bytes_eq, hn]; decide
 have x4 : ((bytesB r.next).toList == ([71] : List UInt8)) = true := by rw [bytes_eq, hn]; decide
 have d1 : W.cell? ⟨g, 1, none⟩ = some (.slice A r.ws.length c) := (blk_cell hb 1).trans rfl
 have f1 := blk_frozen hb 1
 have g1 := eq_true (show (1 : Int) ≤ (r.ws.length : Int) by omega)
 have g2 := eq_true (show (r.ws.length : Int) ≤ (c : Int) by omega)
 have g3 := eq_true (show 1 ≤ r.ws.length by omega)
 have g4 := eq_true (show r.ws.length ≤ c by omega)
 cases h1 : run names last n .unary r.pop with
 | none => rw [h1] at hrun; cases hrun
 | some e1 =>
  rw [h1] at hrun
  have D1 := Aside0.mk (d_unary r.pop e1 h1 (by omega))
  cases e1 with
  | stop er a =>
   obtain rfl : e = .stop er a := by cases hrun; rfl
   clear hrun h1
   by_cases hc1 : c = 1
   ·have HP0 := Aside0.mk (fun nd => RdAt.pop_end (W := W.drewN nd) hb hg hC hc (Kd.R_drewN hR _) (pw_below_drewN hB _) hpos hc1)
    subst hc1
    have hl1 : Aside0 (r.ws.length = 1) := ⟨by omega⟩
    rw [hl1.out] at d1
    clear hb hg hC hc hR hB hn hps hpos
    clear g1 g2 g3 g4
    go_enter Tryz.func98, Tryz.ntmps98
    go_wp2_with (first | (go_at_call 93; refine (HX.out _ HI.out).mono ?_; rintro e w' ⟨rfl, ⟨nd, rfl⟩⟩) | (go_at_call 98; refine (D1.out _ (HP0.out nd)).mono ?_; rintro e w' ⟨rfl, hb⟩; unfold thrown))
    exact ⟨rfl, rfl, hb⟩
   ·have HP0 := Aside0.mk (fun nd => RdAt.pop_far (W := W.drewN nd) hb hg hC hc (Kd.R_drewN hR _) (pw_below_drewN hB _) hpos hc1)
    clear hb hg hC hc hR hB hn hps hpos
    go_enter Tryz.func98, Tryz.ntmps98
    go_wp2_with (first | (go_at_call 93; refine (HX.out _ HI.out).mono ?_; rintro e w' ⟨rfl, ⟨nd, rfl⟩⟩) | (go_at_call 98; refine (D1.out _ (HP0.out nd)).mono ?_; rintro e w' ⟨rfl, hb⟩; unfold thrown))
    exact ⟨rfl, rfl, hb⟩
  | go r1 =>
   have hr1 := run_slim names last n .unary r.pop r1 h1
   have hlo : r1.out.length ≤ 1099511627776 := by have h7 : r1.out.length ≤ r1.size := Nat.le_add_right _ _; omega
   obtain rfl : e = .go (r1.put 10) := by cases hrun; rfl
   have HP := Aside0.mk (fun W h => put_calls w0 g nm nn cn last r1 10 hlo W h)
   clear hrun h1 hr1 hlo
   by_cases hc1 : c = 1
   ·have HP0 := Aside0.mk (fun nd => RdAt.pop_end (W := W.drewN nd) hb hg hC hc (Kd.R_drewN hR _) (pw_below_drewN hB _) hpos hc1)
    subst hc1
    have hl1 : Aside0 (r.ws.length = 1) := ⟨by omega⟩
    rw [hl1.out] at d1
    clear hb hg hC hc hR hB hn hps hpos
    clear g1 g2 g3 g4
    go_enter Tryz.func98, Tryz.ntmps98
    go_wp2_with (first | (go_at_call 93; refine (HX.out _ HI.out).mono ?_; rintro e w' ⟨rfl, ⟨nd, rfl⟩⟩) | (go_at_call 98; refine (D1.out _ (HP0.out nd)).mono ?_; rintro e w' ⟨rfl, hK2⟩; have K2 := Aside0.mk hK2; clear hK2 D1) | (go_at_call 80; refine (HP.out _ K2.out).mono ?_; rintro e w' ⟨rfl, hK3⟩; have K3 := Aside0.mk hK3; clear hK3 HP))
    go_end0
    exact ⟨rfl, K3.out⟩
   ·have HP0 := Aside0.mk (fun nd => RdAt.pop_far (W := W.drewN nd) hb hg hC hc (Kd.R_drewN hR _) (pw_below_drewN hB _) hpos hc1)
    clear hb hg hC hc hR hB hn hps hpos
    go_enter Tryz.func98, Tryz.ntmps98
    go_wp2_with (first | (go_at_call 93; refine (HX.out _ HI.out).mono ?_; rintro e w' ⟨rfl, ⟨nd, rfl⟩⟩) | (go_at_call 98; refine (D1.out _ (HP0.out nd)).mono ?_; rintro e w' ⟨rfl, hK2⟩; have K2 := Aside0.mk hK2; clear hK2 D1) | (go_at_call 80; refine (HP.out _ K2.out).mono ?_; rintro e w' ⟨rfl, hK3⟩; have K3 := Aside0.mk hK3; clear hK3 HP))
    go_end0
    exact ⟨rfl, K3.out⟩
set_option maxHeartbeats 4000000 in
set_option maxRecDepth 100000 in
theorem unary_dia (names : List ByteArray) (w0 : World) (g : Nat) (nm : Option Addr) (nn cn : Nat) (last : Int) (n : Nat) (d_plus : Does names w0 g nm nn cn last n .plus) (d_unary : Does names w0 g nm nn cn last n .unary)
  (r : Rd) (e : End) (hn : r.next = [60]) (hrun : thenDo (run names last n .plus r.pop) (fun r => r.want last [62] (fun r => thenDo (run names last n .unary r) (fun r => some (.go (r.put 17))))) = some e) (hsz : r.size ≤ 1099511627775) (W : World) (hI : RdAt w0 g nm nn cn last W r) :
  Calls Tryz.prog 98 #[.pointer (some ⟨g, 0, none⟩)] W (Told w0 g nm nn cn last e) := by
 have HI := Aside0.mk hI
 clear hI
 have HX := Aside0.mk (fun W h => next_calls w0 g nm nn cn last r W h)
 have HM := Aside0.mk (show ∀ W, RdAt w0 g nm nn cn last W r → Calls Tryz.prog 102 #[.pointer (some ⟨g, 0, none⟩), .string (bytesB r.next), .string (bytesB [62]), .int .u8 17] W (Told w0 g nm nn cn last e) from by
  intro W h
  rw [hn]
  exact modal_dia names w0 g nm nn cn last n d_plus d_unary r e hn hrun hsz W h)
 have x0 : ((bytesB r.next).toList == ([33] : List UInt8)) = false := by rw [bytes_eq, hn]; decide
 have x1 : ((bytesB r.next).toList == ([88] : List UInt8)) = false := by rw [bytes_eq, hn]; decide
 have x2 : ((bytesB r.next).toList == ([78] : List UInt8)) = false := by rw [bytes_eq, hn]; decide
 have x3 : ((bytesB r.next).toList == ([70] : List UInt8)) = false := by rw [bytes_eq, hn]; decide
 have x4 : ((bytesB r.next).toList == ([71] : List UInt8)) = false := by rw [bytes_eq, hn]; decide
 have x5 : ((bytesB r.next).toList == ([60] : List UInt8)) = true := by rw [bytes_eq, hn]; decide
 clear hn hrun
 cases e with
 | stop er a =>
  go_enter Tryz.func98, Tryz.ntmps98
  go_wp2_with (first | (go_at_call 93; refine (HX.out _ HI.out).mono ?_; rintro e w' ⟨rfl, ⟨nd, rfl⟩⟩; have HI3 := Aside0.mk (RdAt.drewN HI.out nd)) | (go_at_call 102; refine (HM.out _ HI3.out).mono ?_; rintro e w' ⟨rfl, hb⟩; unfold thrown))
  exact ⟨rfl, rfl, hb⟩
 | go r2 =>
  go_enter Tryz.func98, Tryz.ntmps98
  go_wp2_with (first | (go_at_call 93; refine (HX.out _ HI.out).mono ?_; rintro e w' ⟨rfl, ⟨nd, rfl⟩⟩; have HI3 := Aside0.mk (RdAt.drewN HI.out nd)) | (go_at_call 102; refine (HM.out _ HI3.out).mono ?_; rintro e w' ⟨rfl, hK2⟩; have K2 := Aside0.mk hK2; clear hK2 HM))
  go_end0
  exact ⟨rfl, K2.out⟩
set_option maxHeartbeats 4000000 in
set_option maxRecDepth 100000 in
theorem unary_box (names : List ByteArray) (w0 : World) (g : Nat) (nm : Option Addr) (nn cn : Nat) (last : Int) (n : Nat) (d_plus : Does names w0 g nm nn cn last n .plus) (d_unary : Does names w0 g nm nn cn last n .unary)
  (r : Rd) (e : End) (hn : r.next = [91]) (hrun : thenDo (run names last n .plus r.pop) (fun r => r.want last [93] (fun r => thenDo (run names last n .unary r) (fun r => some (.go (r.put 18))))) = some e) (hsz : r.size ≤ 1099511627775) (W : World) (hI : RdAt w0 g nm nn cn last W r) :
  Calls Tryz.prog 98 #[.pointer (some ⟨g, 0, none⟩)] W (Told w0 g nm nn cn last e) := by
 have HI := Aside0.mk hI
 clear hI
 have HX := Aside0.mk (fun W h => next_calls w0 g nm nn cn last r W h)
 have HM := Aside0.mk (show ∀ W, RdAt w0 g nm nn cn last W r → Calls Tryz.prog 102 #[.pointer (some ⟨g, 0, none⟩), .string (bytesB r.next), .string (bytesB [93]), .int .u8 18] W (Told w0 g nm nn cn last e) from by
  intro W h
  rw [hn]
  exact modal_box names w0 g nm nn cn last n d_plus d_unary r e hn hrun hsz W h)
 have x0 : ((bytesB r.next).toList == ([33] : List UInt8)) = false := by rw [bytes_eq, hn]; decide
 have x1 : ((bytesB r.next).toList == ([88] : List UInt8)) = false := by rw [bytes_eq, hn]; decide
 have x2 : ((bytesB r.next).toList == ([78] : List UInt8)) = false := by rw [bytes_eq, hn]; decide
 have x3 : ((bytesB r.next).toList == ([70] : List UInt8)) = false := by rw [bytes_eq, hn]; decide
 have x4 : ((bytesB r.next).toList == ([71] : List UInt8)) = false := by rw [bytes_eq, hn]; decide
 have x5 : ((bytesB r.next).toList == ([60] : List UInt8)) = false := by rw [bytes_eq, hn]; decide
 have x6 : ((bytesB r.next).toList == ([91] : List UInt8)) = true := by rw [bytes_eq, hn]; decide
 clear hn hrun
 cases e with
 | stop er a =>
  go_enter Tryz.func98, Tryz.ntmps98
  go_wp2_with (first | (go_at_call 93; refine (HX.out _ HI.out).mono ?_; rintro e w' ⟨rfl, ⟨nd, rfl⟩⟩; have HI3 := Aside0.mk (RdAt.drewN HI.out nd)) | (go_at_call 102; refine (HM.out _ HI3.out).mono ?_; rintro e w' ⟨rfl, hb⟩; unfold thrown))
  exact ⟨rfl, rfl, hb⟩
 | go r2 =>
  go_enter Tryz.func98, Tryz.ntmps98
  go_wp2_with (first | (go_at_call 93; refine (HX.out _ HI.out).mono ?_; rintro e w' ⟨rfl, ⟨nd, rfl⟩⟩; have HI3 := Aside0.mk (RdAt.drewN HI.out nd)) | (go_at_call 102; refine (HM.out _ HI3.out).mono ?_; rintro e w' ⟨rfl, hK2⟩; have K2 := Aside0.mk hK2; clear hK2 HM))
  go_end0
  exact ⟨rfl, K2.out⟩
set_option maxHeartbeats 4000000 in
set_option maxRecDepth 100000 in
theorem unary_atom (names : List ByteArray) (w0 : World) (g : Nat) (nm : Option Addr) (nn cn : Nat) (last : Int) (n : Nat) (d_atom : Does names w0 g nm nn cn last n .atom)
  (r : Rd) (e : End) (n0 : ¬ r.next = [33]) (n1 : ¬ r.next = [88]) (n2 : ¬ r.next = [78]) (n3 : ¬ r.next = [70]) (n4 : ¬ r.next = [71]) (n5 : ¬ r.next = [60]) (n6 : ¬ r.next = [91]) (hrun : run names last n .atom r = some e) (hsz : r.size ≤ 1099511627775) (W : World) (hI : RdAt w0 g nm nn cn last W r) :
  Calls Tryz.prog 98 #[.pointer (some ⟨g, 0, none⟩)] W (Told w0 g nm nn cn last e) := by
 have HI := Aside0.mk hI
 clear hI
 have HX := Aside0.mk (fun W h => next_calls w0 g nm nn cn last r W h)
 have D1 := Aside0.mk (d_atom r e hrun hsz)
 have x0 : ((bytesB r.next).toList == ([33] : List UInt8)) = false := by rw [bytes_eq, beq_eq_false_iff_ne]; exact n0
 have x1 : ((bytesB r.next).toList == ([88] : List UInt8)) = false := by rw [bytes_eq, beq_eq_false_iff_ne]; exact n1
 have x2 : ((bytesB r.next).toList == ([78] : List UInt8)) = false := by rw [bytes_eq, beq_eq_false_iff_ne]; exact n2
 have x3 : ((bytesB r.next).toList == ([70] : List UInt8)) = false := by rw [bytes_eq, beq_eq_false_iff_ne]; exact n3
 have x4 : ((bytesB r.next).toList == ([71] : List UInt8)) = false := by rw [bytes_eq, beq_eq_false_iff_ne]; exact n4
 have x5 : ((bytesB r.next).toList == ([60] : List UInt8)) = false := by rw [bytes_eq, beq_eq_false_iff_ne]; exact n5
 have x6 : ((bytesB r.next).toList == ([91] : List UInt8)) = false := by rw [bytes_eq, beq_eq_false_iff_ne]; exact n6
 clear hrun n0 n1 n2 n3 n4 n5 n6
 cases e with
 | stop er a =>
  go_enter Tryz.func98, Tryz.ntmps98
  go_wp2_with (first | (go_at_call 93; refine (HX.out _ HI.out).mono ?_; rintro e w' ⟨rfl, ⟨nd, rfl⟩⟩; have HI3 := Aside0.mk (RdAt.drewN HI.out nd)) | (go_at_call 103; refine (D1.out _ HI3.out).mono ?_; rintro e w' ⟨rfl, hb⟩; unfold thrown))
  exact ⟨rfl, rfl, hb⟩
 | go r2 =>
  go_enter Tryz.func98, Tryz.ntmps98
  go_wp2_with (first | (go_at_call 93; refine (HX.out _ HI.out).mono ?_; rintro e w' ⟨rfl, ⟨nd, rfl⟩⟩; have HI3 := Aside0.mk (RdAt.drewN HI.out nd)) | (go_at_call 103; refine (D1.out _ HI3.out).mono ?_; rintro e w' ⟨rfl, hK2⟩; have K2 := Aside0.mk hK2; clear hK2 D1))
  go_end0
  exact ⟨rfl, K2.out⟩
theorem unary_does (names : List ByteArray) (w0 : World) (g : Nat) (nm : Option Addr) (nn cn : Nat) (last : Int) (n : Nat) (d_plus : Does names w0 g nm nn cn last n .plus) (d_unary : Does names w0 g nm nn cn last n .unary) (d_atom : Does names w0 g nm nn cn last n .atom) : Does names w0 g nm nn cn last (n + 1) .unary := by
 intro r e hrun hsz W hI
 rw [run] at hrun
 show Calls Tryz.prog 98 _ W _
 by_cases n0 : r.next = [33]
 ·rw [if_pos n0] at hrun; exact unary_pre0 names w0 g nm nn cn last n d_unary r e n0 hrun hsz W hI
 rw [if_neg n0] at hrun
 by_cases n1 : r.next = [88]
 ·rw [if_pos n1] at hrun; exact unary_pre1 names w0 g nm nn cn last n d_unary r e n1 hrun hsz W hI
 rw [if_neg n1] at hrun
 by_cases n2 : r.next = [78]
 ·rw [if_pos n2] at hrun; exact unary_pre2 names w0 g nm nn cn last n d_unary r e n2 hrun hsz W hI
 rw [if_neg n2] at hrun
 by_cases n3 : r.next = [70]
 ·rw [if_pos n3] at hrun; exact unary_pre3 names w0 g nm nn cn last n d_unary r e n3 hrun hsz W hI
 rw [if_neg n3] at hrun
 by_cases n4 : r.next = [71]
 ·rw [if_pos n4] at hrun; exact unary_pre4 names w0 g nm nn cn last n d_unary r e n4 hrun hsz W hI
 rw [if_neg n4] at hrun
 by_cases n5 : r.next = [60]
 ·rw [if_pos n5] at hrun; exact unary_dia names w0 g nm nn cn last n d_plus d_unary r e n5 hrun hsz W hI
 rw [if_neg n5] at hrun
 by_cases n6 : r.next = [91]
 ·rw [if_pos n6] at hrun; exact unary_box names w0 g nm nn cn last n d_plus d_unary r e n6 hrun hsz W hI
 rw [if_neg n6] at hrun
 exact unary_atom names w0 g nm nn cn last n d_atom r e n0 n1 n2 n3 n4 n5 n6 hrun hsz W hI
end Go.Proofs.YtaogoabnidbbpaaGreatDoor.PText
