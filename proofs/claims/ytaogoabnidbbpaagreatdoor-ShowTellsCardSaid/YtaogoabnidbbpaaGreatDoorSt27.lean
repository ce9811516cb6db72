/- Texts of this work merged into one file, what the law does not need left out: RefOuts; RefRead. Conditions stand in each law. -/
import Derived.Test.YtaogoabnidbbpaaGreatDoorSt15
import Derived.Test.YtaogoabnidbbpaaGreatDoorSt26
namespace Go.Proofs.YtaogoabnidbbpaaGreatDoor.PText
open Go.RowKit Go.Proofs.YtaogoabnidbbpaaGreatDoorW.PrintWords Go.Proofs.YtaogoabnidbbpaaGreatDoorW.PrintLast Go.Proofs.YtaogoabnidbbpaaGreatDoorW.PrintMore
set_option linter.unusedVariables false
set_option linter.unusedSimpArgs false
def OutOk (r : Rd) : Prop := ∀ t ∈ r.out, okT t = true
def okE (x : Option End) : Prop := ∀ r', x = some (.go r') → OutOk r'
theorem okE_go {r : Rd} (h : OutOk r) : okE (some (.go r)) := by intro r' e; cases e; exact h
theorem okE_then {x : Option End} {f : Rd → Option End} (h : okE x) (hf : ∀ r, OutOk r → okE (f r)) : okE (thenDo x f) := by
 intro r' e
 obtain ⟨r1, h1, h2⟩ := then_go e
 exact hf r1 (h r1 h1) r' h2
theorem okE_ite {c : Prop} [Decidable c] {a b : Option End} (h1 : okE a) (h2 : okE b) : okE (if c then a else b) := by split <;> assumption
theorem ok_put {r : Rd} (h : OutOk r) {o : Int} (ho : 0 ≤ o ∧ o < 256) : OutOk (r.put o) := by
 intro t ht
 have ht' : t ∈ r.out ++ [(⟨o, 0⟩ : Tk)] := ht
 rcases List.mem_append.1 ht' with h1 | h1
 ·exact h t h1
 ·rw [List.mem_singleton.1 h1]
  unfold okT
  simp only [Bool.and_eq_true, decide_eq_true_eq]
  omega
theorem okE_fail (r : Rd) (last e : Int) : okE (some (r.fail last e)) := by intro r' h; cases h
theorem okE_want {r : Rd} {last : Int} {s : Bs} {f : Rd → Option End} (h : OutOk r) (hf : ∀ r, OutOk r → okE (f r)) : okE (r.want last s f) := by
 unfold Rd.want
 split
 ·exact hf _ h
 ·exact okE_fail _ _ _
theorem okE_name {r : Rd} {names : List ByteArray} {last : Int} (hn : names.length ≤ 200) (h : OutOk r) : okE (r.name names last) := by
 intro r' e
 unfold Rd.name at e
 split at e
 ·cases e
 ·split at e
  ·cases e
  ·split at e
   ·cases e
   ·rename_i i hi
    cases e
    intro t ht
    have ht' : t ∈ r.out ++ [(⟨2, (i : Int)⟩ : Tk)] := ht
    rcases List.mem_append.1 ht' with h1 | h1
    ·exact h t h1
    ·rw [List.mem_singleton.1 h1]
     have hi' : i < names.length := by
      unfold placeOf at hi
      exact (List.findIdx?_eq_some_iff_getElem.1 hi).1
     unfold okT
     simp only [Bool.and_eq_true, decide_eq_true_eq]
     omega
theorem run_ok (names : List ByteArray) (hn : names.length ≤ 200) (last : Int) (n : Nat) : ∀ nt r, OutOk r → okE (run names last n nt r) := by
 induction n with
 | zero => intro nt r h r' e; rw [run] at e; cases e
 | succ n ih =>
  intro nt r h
  cases nt <;> rw [run]
  all_goals
   repeat' first
    | exact okE_fail _ _ _
    | exact okE_name hn (by assumption)
    | exact ih _ _ (by assumption)
    | exact ih _ _ (ok_put (by assumption) (by decide))
    | refine okE_then ?_ (fun r h => ?_)
    | refine okE_ite ?_ ?_
    | refine okE_want (by assumption) (fun r h => ?_)
    | exact okE_go (by assumption)
    | exact okE_go (ok_put (by assumption) (by decide))
theorem readL_okT (names : List ByteArray) (s : Bs) (path : Bool) (hn : names.length ≤ 200) : ∀ t ∈ (readL names s path).1, okT t = true := by
 have nil : ∀ t ∈ ([] : List Tk), okT t = true := fun t h => absurd h List.not_mem_nil
 unfold readL
 split
 ·split
  ·unfold readW
   cases hr : run names s.length (roundsFor (wordsL s).1) (ntOf path) ⟨(wordsL s).1, []⟩ with
   | none => exact nil
   | some e =>
    cases e with
    | stop a b => exact nil
    | go r =>
     have ho := run_ok names hn _ _ _ ⟨(wordsL s).1, []⟩ (fun t h => absurd h List.not_mem_nil) r hr
     show ∀ t ∈ (endL path (match r.ws with | [] => some (End.go r) | _ :: _ => some (r.fail s.length 150))).1, okT t = true
     cases r.ws with
     | nil =>
      show ∀ t ∈ (if chkT r.out path = 0 then (r.out, 0, 0) else ([], chkT r.out path, -1)).1, okT t = true
      split
      ·exact ho
      ·exact nil
     | cons a b => exact nil
  ·exact nil
 ·exact nil
end Go.Proofs.YtaogoabnidbbpaaGreatDoor.PText
namespace Go.Proofs.YtaogoabnidbbpaaGreatDoor.PText
open Go.RowKit Go.Proofs.YtaogoabnidbbpaaGreatDoorW.PrintWords Go.Proofs.YtaogoabnidbbpaaGreatDoorW.PrintLast Go.Proofs.YtaogoabnidbbpaaGreatDoorW.PrintMore Go.Proofs.YtaogoabnidbbpaaGreatDoorW.Aid
set_option linter.unusedVariables false
set_option linter.unusedSimpArgs false
def rejoinderref05_read.f (names : List ByteArray) (s : ByteArray) (path : Bool) : Option (List Tk × Int × Int) := some (readL names s.data.toList path)
theorem endL_go (path : Bool) (r : Rd) : endL path (some (.go r)) = if chkT r.out path = 0 then (r.out, 0, 0) else ([], chkT r.out path, -1) := rfl
abbrev ReadPost (w : World) (r : List Tk × Int × Int) (e : Ending) (w' : World) : Prop := ∃ v0_ : Value, e = .returned (.tuple #[v0_, .int .i64 r.2.1, .int .i64 r.2.2]) ∧ Kd.R k41 41 w' w.heap.size (fun _ => True) v0_ r.1 ∧ Below w.heap.size w w'
set_option maxHeartbeats 8000000 in
set_option maxRecDepth 100000 in
/-- The names are at fault. -/
theorem read2_names (A0 : Option Addr) (c0 : Nat) (l0 : List ByteArray) (a1 : ByteArray) (a2 : Bool) (w : World) (hr0 : Kd.C Kd.string w A0 l0.length l0) (hc0 : l0.length ≤ c0) (h0 : ¬ chk l0 = 0) :
  Calls Tryz.prog 36 #[.slice A0 l0.length c0, .string a1, .bool a2] w (ReadPost w ([], chk l0, -1)) := by
 have HC := Aside0.mk (rejoinderref01_Check.calls A0 c0 l0 (chk l0) w hr0 hc0 rfl)
 have c1 : (chk l0 == 0) = false := beq_eq_false_iff_ne.2 h0
 have c2 : (chk l0 != 0) = true := bne_iff_ne.2 h0
 clear h0 hr0 hc0
 go_enter Tryz.func36, Tryz.ntmps36
 go_wp2_with (go_at_call 16; refine HC.out.mono ?_; rintro e w' ⟨rfl, ⟨nd, rfl⟩⟩)
 go_ret3
 exact ⟨.slice none 0 0, rfl, Kd.R_nil _ _ _ _ _, pw_below_drewN (Below.refl _ _) _⟩
set_option maxHeartbeats 8000000 in
set_option maxRecDepth 100000 in
/-- A word is at fault. -/
theorem read2_words (A0 : Option Addr) (c0 : Nat) (l0 : List ByteArray) (a1 : ByteArray) (a2 : Bool) (w : World) (hr0 : Kd.C Kd.string w A0 l0.length l0) (hc0 : l0.length ≤ c0) (h0 : chk l0 = 0) (k : Nat) (ws : List Wd) (er a : Int) (hk : rejoinderref04_Words.f k a1 = some (ws, er, a)) (h1 : ¬ er = 0) :
  Calls Tryz.prog 36 #[.slice A0 l0.length c0, .string a1, .bool a2] w (ReadPost w ([], er, a)) := by
 have HC := Aside0.mk (rejoinderref01_Check.calls A0 c0 l0 0 w hr0 hc0 (by rw [← h0]; rfl))
 have HK := Aside0.mk hk
 have c1 : (er == 0) = false := beq_eq_false_iff_ne.2 h1
 have c2 : (er != 0) = true := bne_iff_ne.2 h1
 clear h0 h1 hk hr0 hc0
 go_enter Tryz.func36, Tryz.ntmps36
 go_wp2_with (first | (go_at_call 16; refine HC.out.mono ?_; rintro e w' ⟨rfl, ⟨nd, rfl⟩⟩) | (go_at_call 50; refine (rejoinderref04_Words.calls k a1 ws er a _ HK.out).mono ?_; rintro e w2 ⟨v, rfl, hR, hB⟩; have HB := Aside0.mk hB; clear hR hB))
 go_ret3
 exact ⟨.slice none 0 0, rfl, Kd.R_nil _ _ _ _ _, below_step (pw_below_drewN (Below.refl _ _) _) HB.out⟩
set_option maxHeartbeats 8000000 in
set_option maxRecDepth 100000 in
/-- Names and words are as they should. -/
theorem read2_main (A0 : Option Addr) (c0 : Nat) (l0 : List ByteArray) (a1 : ByteArray) (a2 : Bool) (w : World) (hr0 : Kd.C Kd.string w A0 l0.length l0) (hc0 : l0.length ≤ c0) (h0 : chk l0 = 0) (k : Nat) (ws : List Wd) (hk : rejoinderref04_Words.f k a1 = some (ws, 0, 0)) (hwl : ws.length ≤ 4096) (hwn : ∀ w ∈ ws, w.f1.data.toList ≠ [])
  (hC : ∀ (A : Option Addr) (c : Nat) (l : List Tk) (W : World), Kd.C k41 W A l.length l → l.length ≤ c → (∀ t ∈ l, okT t = true) → Calls Tryz.prog 17 #[.slice A l.length c] W fun e w' => e = .returned (.int .i64 (chkT l false)) ∧ Below W.heap.size W w')
  (hP : ∀ (A : Option Addr) (c : Nat) (l : List Tk) (W : World), Kd.C k41 W A l.length l → l.length ≤ c → (∀ t ∈ l, okT t = true) → Calls Tryz.prog 20 #[.slice A l.length c] W fun e w' => e = .returned (.int .i64 (chkT l true)) ∧ Below W.heap.size W w') :
  Calls Tryz.prog 36 #[.slice A0 l0.length c0, .string a1, .bool a2] w (ReadPost w (endL a2 (readW l0 a1.size (roundsFor ws) (ntOf a2) ws))) := by
 have HC := Aside0.mk (rejoinderref01_Check.calls A0 c0 l0 0 w hr0 hc0 (by rw [← h0]; rfl))
 have HK := Aside0.mk hk
 have HCK := Aside0.mk (And.intro hC hP)
 have HR0 := Aside0.mk (show Kd.C Kd.string w A0 l0.length l0 ∧ l0.length ≤ c0 ∧ l0.length ≤ 8 from ⟨hr0, hc0, by unfold chk at h0; split at h0; cases h0; omega⟩)
 have HW := Aside0.mk (And.intro hwl hwn)
 obtain ⟨e1, he1⟩ := run_total l0 a1.size (roundsFor ws) (ntOf a2) ⟨ws, []⟩ (by unfold roundsFor ntOf; cases a2 <;> simp [rank])
 have HE := Aside0.mk he1
 clear h0 hk hr0 hc0 hC hP hwl hwn he1
 cases a2
 all_goals
  go_enter Tryz.func36, Tryz.ntmps36
  go_wp2_with (first | (go_at_call 16; refine HC.out.mono ?_; rintro e w' ⟨rfl, ⟨nd, rfl⟩⟩; clear HC) | (go_at_call 50; refine (rejoinderref04_Words.calls k a1 ws 0 0 _ HK.out).mono ?_; rintro e w2 ⟨v, rfl, hR, hB⟩; obtain ⟨A, c, rfl⟩ := Kd.R_slice hR; have HB := Aside0.mk (below_step (pw_below_drewN (Below.refl _ _) _) hB); have HR := Aside0.mk (Kd.R_reads' hR); clear hR hB))
  obtain ⟨q, hq0⟩ : ∃ q : Rc, q = ⟨l0, ws, (a1.size : Int), w2, w2.heap.size, A, c, A0, c0⟩ := ⟨_, rfl⟩
  have hq : q.ok := by rw [hq0]; exact ⟨HR.out.2.2, HR.out.2.1, HW.out.1, Kd.C_below HR0.out.1 HB.out, HR0.out.2.1, HR0.out.2.2, Nat.le_refl _⟩
  obtain ⟨W3, hW3⟩ : ∃ W3, W3 = w2.alloc (.cells #[.slice A ws.length c, .int .i64 0, .int .i64 (a1.size : Int), .slice A0 l0.length c0, .int .i64 0, .int .i64 0] 102) := ⟨_, rfl⟩
  have hF : Rf q W3 0 0 0 := by rw [hq0, hW3]; exact ⟨blk_new _ _, below_alloc (Below.refl _ _) _⟩
  have d := all2_does q hq (by rw [hq0]; exact HW.out.2) (roundsFor ws) (by have := HW.out.1; unfold roundsFor; omega)
  rw [← hW3]
  have hg : q.g = w2.heap.size := by rw [hq0]
  have hrun := HE.out
  rw [show l0 = q.names by rw [hq0], show (a1.size : Int) = q.last by rw [hq0]] at hrun
  have hws : ws = q.ws := by rw [hq0]
  have HW0 : Aside0 (q.w0 = w2) := ⟨by rw [hq0]⟩
  rw [← hg]
  have HQ := Aside0.mk hq
  have HB3 : Aside0 (Below w.heap.size w W3) := ⟨by rw [hW3]; exact below_alloc HB.out _⟩
  have HRUN := Aside0.mk hrun
  have HG := Aside0.mk (And.intro hg hws)
  have HNL := Aside0.mk (show q.names = l0 ∧ q.last = (a1.size : Int) from by rw [hq0]; exact ⟨rfl, rfl⟩)
  have HF3 := Aside0.mk hF
  first
  | have HD := Aside0.mk (d.at_ 0 (by omega) ⟨ws, []⟩ e1 hrun W3 0 0 hws (Nat.zero_le _) hF)
  | have HD := Aside0.mk (d.path 0 (by omega) ⟨ws, []⟩ e1 hrun W3 0 0 hws (Nat.zero_le _) hF)
  clear hq hF d hW3 hq0 hg hrun hws
  first
  | go_at_call 52
  | go_at_call 51
  refine HD.out.mono ?_
  intro e4 w4 ht
  obtain ⟨v, l, a, er, p, rfl, hh, hm⟩ := told_mid HRUN.out ht
  have HH := Aside0.mk hh
  have d0 : w4.cell? ⟨q.g, 0, none⟩ = some (.slice q.A q.ws.length q.c) := (blk_cell hh.2.1.1 0).trans rfl
  have d1 : w4.cell? ⟨q.g, 1, none⟩ = some (.int .i64 (a : Int)) := (blk_cell hh.2.1.1 1).trans rfl
  have d4 : w4.cell? ⟨q.g, 4, none⟩ = some (.int .i64 er) := (blk_cell hh.2.1.1 4).trans rfl
  have d5 : w4.cell? ⟨q.g, 5, none⟩ = some (.int .i64 p) := (blk_cell hh.2.1.1 5).trans rfl
  have HW4 : Aside0 (Below w.heap.size w w4) := ⟨below_step HB.out (HW0.out ▸ hh.2.1.2)⟩
  clear ht hh
  by_cases her : er = 0
  ·subst her
   obtain ⟨rfl, r1, he1, ho, hws1, ha⟩ : p = 0 ∧ ∃ r1, e1 = .go r1 ∧ r1.out = l ∧ r1.ws = q.ws.drop a ∧ a ≤ q.ws.length := by
    rcases hm with ⟨_, h1, r1, h2, h3, h4, h5, _⟩ | ⟨h, _⟩
    ·exact ⟨h1, r1, h2, h3, h4, h5⟩
    ·exact absurd rfl h
   by_cases hal : a < q.ws.length
   ·have hx := List.drop_eq_getElem_cons hal
    have HRES := Aside0.mk (show readW l0 a1.size (roundsFor ws) (ntOf _) ws = some (.stop 150 ((q.rd a).place q.last)) from by
     unfold readW
     rw [HE.out, he1]
     show (match r1.ws with | [] => some (End.go r1) | _ :: _ => some (r1.fail a1.size 150)) = _
     rw [← HNL.out.2]
     have : r1.fail q.last 150 = .stop 150 ((q.rd a).place q.last) := by show End.stop 150 (r1.place q.last) = _; unfold Rc.rd Rd.place; rw [hws1]
     rw [this, hws1, hx])
    have g1 : decide ((a : Int) < (q.ws.length : Int)) = true := decide_eq_true (by omega)
    have g3 := eq_true hal
    have g5 : decide (a < q.ws.length) = true := decide_eq_true hal
    clear hm hx hal ho hws1 ha he1
    go_wp2
    go_quiet (fail)
    go_wp2_with (first | (go_at_call 53; refine (fail_now q HQ.out _ a 0 150 (HH.out.2.1.drewN _)).mono ?_; rintro e5 w5 ⟨rfl, hf, hk⟩; have x4 : w5.cell? ⟨q.g, 4, none⟩ = some (.int .i64 150) := (blk_cell hf.1 4).trans rfl; have x5 : w5.cell? ⟨q.g, 5, none⟩ = some (.int .i64 ((q.rd a).place q.last)) := (blk_cell hf.1 5).trans rfl; have HW5 : Aside0 (Below w.heap.size w w5) := ⟨below_step HB.out (HW0.out ▸ hf.2)⟩; clear hf hk))
    go_quiet (fail)
    go_wp2
    go_ret3
    rw [HRES.out]
    exact ⟨.slice none 0 0, rfl, Kd.R_nil _ _ _ _ _, pw_below_drewN HW5.out _⟩
   ·obtain rfl : a = q.ws.length := by omega
    have HRES := Aside0.mk (show readW l0 a1.size (roundsFor ws) (ntOf _) ws = some (.go r1) from by
     unfold readW
     rw [HE.out, he1]
     show (match r1.ws with | [] => some (End.go r1) | _ :: _ => some (r1.fail a1.size 150)) = _
     rw [hws1, List.drop_length])
    obtain ⟨A4, c4, rfl⟩ := Kd.R_slice HH.out.1
    have HR4 := Aside0.mk (Kd.R_reads' HH.out.1)
    have HO := Aside0.mk ho
    have HRV : Aside0 (Kd.R k41 41 w4 w.heap.size (fun _ => True) (.slice A4 l.length c4) l) := ⟨Kd.R_mono (Kd.R_lower HH.out.1 HB3.out.size) (fun _ _ => trivial)⟩
    have hok : ∀ t ∈ l, okT t = true := fun t ht => run_ok l0 (by have := HR0.out.2.2; omega) _ _ _ ⟨ws, []⟩ (fun t h => absurd h List.not_mem_nil) r1 (by rw [HE.out, he1]) t (by rw [ho]; exact ht)
    have HFC := Aside0.mk (fun m => HCK.out.1 A4 c4 l (w4.drewN m) (Kd.C_drewN HR4.out.2.2 m) HR4.out.2.1 hok)
    have HPC := Aside0.mk (fun m => HCK.out.2 A4 c4 l (w4.drewN m) (Kd.C_drewN HR4.out.2.2 m) HR4.out.2.1 hok)
    clear hok
    clear hm hal ho hws1 ha he1
    go_wp2
    go_quiet (fail)
    go_wp2_with fail
    first
    | (go_at_call 17; obtain ⟨z, hz⟩ : ∃ z, z = chkT l false := ⟨_, rfl⟩; have HZ := Aside0.mk hz; rw [← hz] at HFC; clear hz; refine (HFC.out _).mono ?_)
    | (go_at_call 20; obtain ⟨z, hz⟩ : ∃ z, z = chkT l true := ⟨_, rfl⟩; have HZ := Aside0.mk hz; rw [← hz] at HPC; clear hz; refine (HPC.out _).mono ?_)
    rintro e5 w5 ⟨rfl, hb5⟩
    have HB5 := Aside0.mk (below_step (pw_below_drewN (Below.refl w4.heap.size w4) _) hb5)
    clear hb5 HFC HPC
    by_cases h0 : z = 0
    ·subst h0
     go_wp2
     go_ret3
     rw [HRES.out]
     rw [endL_go, HO.out, ← HZ.out, if_pos rfl]
     exact ⟨.slice A4 l.length c4, rfl, Kd.R_below HRV.out HB5.out, below_step HW4.out HB5.out⟩
    ·have c1 : (z == 0) = false := beq_eq_false_iff_ne.2 h0
     have c2 : (z != 0) = true := bne_iff_ne.2 h0
     have HZ0 := Aside0.mk h0
     clear h0
     go_wp2
     go_ret3
     rw [HRES.out]
     rw [endL_go, HO.out, ← HZ.out, if_neg HZ0.out]
     exact ⟨.slice none 0 0, rfl, Kd.R_nil _ _ _ _ _, below_step HW4.out HB5.out⟩
  ·obtain ⟨rfl, hl2⟩ : e1 = .stop er p ∧ l.length ≤ 5000 * roundsFor ws := by
    rcases hm with ⟨h, _⟩ | ⟨_, h1, h2⟩
    ·exact absurd h her
    ·exact ⟨h1, h2⟩
   have HRES := Aside0.mk (show readW l0 a1.size (roundsFor ws) (ntOf _) ws = some (.stop er p) from by unfold readW; rw [HE.out]; rfl)
   have c1 : (er == 0) = false := beq_eq_false_iff_ne.2 her
   have c2 : (er != 0) = true := bne_iff_ne.2 her
   clear her hl2 hm
   go_wp2
   go_quiet (fail)
   go_wp2
   go_quiet (fail)
   go_wp2
   go_ret3
   rw [HRES.out]
   exact ⟨.slice none 0 0, rfl, Kd.R_nil _ _ _ _ _, pw_below_drewN (pw_below_drewN HW4.out _) _⟩
end Go.Proofs.YtaogoabnidbbpaaGreatDoor.PText
