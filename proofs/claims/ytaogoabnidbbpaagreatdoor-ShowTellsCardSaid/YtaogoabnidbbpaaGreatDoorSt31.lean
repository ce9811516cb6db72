/- Texts of this work merged into one file, what the law does not need left out: RefRd0; RefRd3; RefKind; RefReadAll. Conditions stand in each law. -/
import Derived.Test.YtaogoabnidbbpaaGreatDoorSt27
import Derived.Test.YtaogoabnidbbpaaGreatDoorSt29
import Derived.Test.YtaogoabnidbbpaaGreatDoorSt30
namespace Go.Proofs.YtaogoabnidbbpaaGreatDoor.PText
open Go.RowKit Go.Proofs.YtaogoabnidbbpaaGreatDoorW.PrintWords Go.Proofs.YtaogoabnidbbpaaGreatDoorW.PrintLast Go.Proofs.YtaogoabnidbbpaaGreatDoorW.PrintMore
set_option linter.unusedVariables false
set_option linter.unusedSimpArgs false
def toP (x : Trm.Pt) : Rp := ⟨x.f0, x.f1, x.f2, x.f3⟩
theorem fits_toP {o p : Int} {n : Nat} (h : Trm.takesN o p = some n) {a : List Trm.Pt} (ha : a.length = n) : rejoinderref03_fits.f o (a.map toP) = some (Trm.fitsB o a) := by
 have h1 := Trm.fits_now h ha
 rw [← h1]
 have hl : (a.map toP).length ≤ 1000 := by have := Trm.takesN_le h; rw [List.length_map]; omega
 have hl2 : a.length ≤ 4611686018427387904 := by rw [List.length_map] at hl; omega
 unfold rejoinderref03_fits.f term_fits.f
 by_cases k1 : o = 17 ∨ o = 18
 ·rw [if_pos k1, if_pos k1]
  rcases a with _ | ⟨x, _ | ⟨y, t⟩⟩ <;> rfl
 rw [if_neg k1, if_neg k1]
 by_cases k2 : o = 21 ∨ o = 22
 ·rw [if_pos k2, if_pos k2]
  rcases a with _ | ⟨x, _ | ⟨y, t⟩⟩ <;> rfl
 rw [if_neg k2, if_neg k2]
 by_cases k3 : o = 23
 ·rw [if_pos k3, if_pos k3]
  rcases a with _ | ⟨x, t⟩ <;> rfl
 rw [if_neg k3, if_neg k3]
 by_cases k4 : o = 19
 ·rw [if_pos k4, if_pos k4]
  rcases a with _ | ⟨x, t⟩ <;> rfl
 rw [if_neg k4, if_neg k4, if_pos hl, if_pos hl2, List.any_map]
 rfl
theorem put_toP (o p : Int) (i : Int) {a : List Trm.Pt} (hl : a.length ≤ 1000) (hd : ∀ x ∈ a, 1 ≤ x.f2 ∧ x.f2 ≤ 1000) : rejoinderref03_put.f o p (a.map toP) i = some ((Trm.mk o i a).f0, (Trm.mk o i a).f1, (Trm.mk o i a).f2, (Trm.mk o i a).f3) := by
 unfold rejoinderref03_put.f
 rw [if_pos ⟨by rw [List.length_map]; exact hl, by rw [List.all_map, List.all_eq_true]; intro x hx; have := hd x hx; simp only [Function.comp, toP, Bool.and_eq_true]; exact ⟨decide_eq_true this.1, decide_eq_true this.2⟩⟩]
 unfold putR Trm.mk
 rw [List.all_map, List.foldl_map, List.head?_map, Option.map_map]
 rfl
/-- What a step asks, and what it leaves. -/
inductive StepR (i : Nat) (st : List Trm.Pt) (t : Tk) : Option (List Trm.Pt × Trm.Pt) → Prop
 | none_ : Trm.takesN t.f0 t.f1 = none → StepR i st t none
 | few {n : Nat} : Trm.takesN t.f0 t.f1 = some n → ¬ n ≤ st.length → StepR i st t none
 | bad {n : Nat} : Trm.takesN t.f0 t.f1 = some n → n ≤ st.length → Trm.fitsB t.f0 (st.drop (st.length - n)) = false → StepR i st t none
 | good {n : Nat} : Trm.takesN t.f0 t.f1 = some n → n ≤ st.length → Trm.fitsB t.f0 (st.drop (st.length - n)) = true → StepR i st t (some (st.take (st.length - n), Trm.mk t.f0 i (st.drop (st.length - n))))
theorem step_cases (i : Nat) (st : List Trm.Pt) (t : Tk) : StepR i st t (Trm.step i st t) := by
 unfold Trm.step
 cases hn : Trm.takesN t.f0 t.f1 with
 | none => exact .none_ hn
 | some n =>
  simp only [Option.bind_some]
  by_cases hl : n ≤ st.length
  ·rw [if_pos hl]
   by_cases hf : Trm.fitsB t.f0 (st.drop (st.length - n)) = true
   ·rw [if_pos hf]; exact .good hn hl hf
   ·rw [if_neg hf]; exact .bad hn hl (by simpa using hf)
  ·rw [if_neg hl]; exact .few hn hl
theorem mk_depth {o i : Int} {a : List Trm.Pt} {m : Nat} (h : ∀ x ∈ a, 1 ≤ x.f2 ∧ x.f2 ≤ (m : Int)) : 1 ≤ (Trm.mk o i a).f2 ∧ (Trm.mk o i a).f2 ≤ ((m + 1 : Nat) : Int) :=
 ⟨(Trm.fold_max _ 1).1, Trm.fold_bound _ 1 _ (by omega) fun x hx => by have := h x hx; omega⟩
end Go.Proofs.YtaogoabnidbbpaaGreatDoor.PText
namespace Go.Proofs.YtaogoabnidbbpaaGreatDoor.PText
open Go.RowKit Go.Proofs.YtaogoabnidbbpaaGreatDoorW.PrintWords Go.Proofs.YtaogoabnidbbpaaGreatDoorW.PrintLast Go.Proofs.YtaogoabnidbbpaaGreatDoorW.PrintMore Go.Proofs.YtaogoabnidbbpaaGreatDoorW.Aid
set_option linter.unusedVariables false
set_option linter.unusedSimpArgs false
abbrev RP (w : World) (b : Nat) (v : Value) (l : List Rp) : Prop := Kd.R k86 86 w b (fun _ => True) v l
section
variable {ops : Array Oper} {o : Oper} {act : Act} {Q : Exit → Act → World → Prop} {rest : List Oper}
theorem rp_append {w' : World} {b : Nat} {v : Value} {l : List Rp} (p : Rp) (hgd : o.guard = none) (s x : Operand) (ho : o.op = .call { callee := .builtin .append, args := #[s, x], argTypes := #[64, 64] }) (hs : act.eval s = v) {g0 : Nat} (hx : act.eval x = .slice (some ⟨g0, 0, none⟩) 1 1)
  (H : RP w' b v l) (hb : b ≤ w'.heap.size) (hl : l.length ≤ 1000000) (k : ∀ v1 w1, RP w1 b v1 (l ++ [p]) → w'.grownBy w1 v.ownBlock → (v1.ownBlock = v.ownBlock ∨ ∃ g, v1.ownBlock = some g ∧ w'.heap.size ≤ g) → wpList Tryz.prog ops Q rest (act.put o.dst v1) w1) (hg0 : g0 = w'.heap.size := by first | rfl | simp) : wpList Tryz.prog ops Q (o :: rest) act (w'.alloc (.cells #[.bool p.f0, .bool p.f1, .int .i64 p.f2, .int .i64 p.f3] 86)) := by
 subst hg0
 exact Kd.R_append k86 (w0 := w') b hgd s x 64 86 (.agg #[(.bool false), (.bool false), (.int .i64 0), (.int .i64 0)]) 24 ho Tryz.underlying64 info86 rfl (by decide) (by omega) v l p [.bool p.f0, .bool p.f1, .int .i64 p.f2, .int .i64 p.f3] (fun _ => True) (fun _ => False) hs hx (k86_mkM _ _ _ p) (fun _ hk => hk.elim) (fun _ _ => trivial) H (Below.refl _ _) hb (by omega) (fun v1 w1 hr _ hg hat => k v1 w1 hr hg hat)
theorem rp_rows {w' : World} {b : Nat} {v : Value} {l ys : List Rp} {A : Option Addr} {m c : Nat} (hgd : o.guard = none) (s x : Operand) (ho : o.op = .call { callee := .builtin .append, args := #[s, x], argTypes := #[64, 64] }) (hs : act.eval s = v) (hx : act.eval x = .slice A m c)
  (H : RP w' b v l) (hy : Kd.C k86 w' A m ys) (hb : b ≤ w'.heap.size) (hl : l.length + m ≤ 1000000) (k : ∀ v1 w1, RP w1 b v1 (l ++ ys) → w'.grownBy w1 v.ownBlock → (v1.ownBlock = v.ownBlock ∨ ∃ g, v1.ownBlock = some g ∧ w'.heap.size ≤ g) → wpList Tryz.prog ops Q rest (act.put o.dst v1) w1) : wpList Tryz.prog ops Q (o :: rest) act w' :=
 Kd.R_append_rows k86 (w0 := w') b hgd s x 64 86 (.agg #[(.bool false), (.bool false), (.int .i64 0), (.int .i64 0)]) 24 ho Tryz.underlying64 info86 rfl (by decide) (by omega) v l ys A m c (fun _ => True) (fun _ => False) hs hx H hy (fun x cs h => by obtain rfl := k86_open h; exact k86_mkM _ _ _ x) (fun _ hk => hk.elim) (fun _ _ => trivial) (Below.refl _ _) hb (by omega) (fun v1 w1 hr _ hg hat => k v1 w1 hr hg hat)
end
theorem rp_base {w : World} {b : Nat} {v : Value} {l : List Rp} (h : RP w b v l) (k : Nat) (hk : v.ownBlock = some k) : b ≤ k := by
 obtain ⟨inner, ho⟩ := Kd.R_own h
 exact own_base ho k hk
theorem rp_lt {w : World} {b : Nat} {v : Value} {l : List Rp} (h : RP w b v l) (k : Nat) (hk : v.ownBlock = some k) : k < w.heap.size := by
 obtain ⟨inner, ho⟩ := Kd.R_own h
 exact own_lt ho k hk
theorem rp_take {w : World} {b m c : Nat} {A : Option Addr} {l : List Rp} (h : RP w b (.slice A l.length c) l) (hm : m ≤ l.length) : Kd.C k86 w A m (l.take m) := by
 have h1 := Kd.C_take (Kd.R_reads' h).2.2 hm
 rw [show (l.take m).length = m by rw [List.length_take]; omega] at h1
 exact h1
theorem rp_new {w : World} {b : Nat} {v v2 : Value} {l : List Rp} (h : RP w b v l) (hat : v2.ownBlock = (Value.slice none 0 0).ownBlock ∨ ∃ g, v2.ownBlock = some g ∧ w.heap.size ≤ g) (k : Nat) (hk : v2.ownBlock = some k) : some k ≠ v.ownBlock := by
 intro e
 have h1 := rp_lt h k e.symm
 rcases hat with hat | ⟨g, hg, hle⟩
 ·rw [hk] at hat; cases hat
 ·rw [hk] at hg; cases hg; omega
theorem rp_apart {w : World} {b : Nat} {v v2 v3 : Value} {l : List Rp} (hn : ∀ k, v2.ownBlock = some k → some k ≠ v.ownBlock) (h : RP w b v l) (hat : v3.ownBlock = v2.ownBlock ∨ ∃ g, v3.ownBlock = some g ∧ w.heap.size ≤ g) (k : Nat) (hk : v.ownBlock = some k) : some k ≠ v3.ownBlock := by
 intro e
 rcases hat with hat | ⟨g, hg, hle⟩
 ·rw [hat] at e; exact hn k e.symm hk.symm
 ·have h1 := rp_lt h k hk
  rw [← e] at hg; cases hg; omega
theorem rp_first_grown {w wq w4 w5 : World} {v5 v6 : Value} {ra rs : List Rp} {cs : Array Value} (R5 : RP wq w.heap.size v5 ra) (R6 : RP wq w.heap.size v6 rs) (hap : ∀ k, v5.ownBlock = some k → some k ≠ v6.ownBlock) (hq : Below wq.heap.size wq w4) (hb : Below w.heap.size w w4) (hg : (w4.alloc (.cells cs 86)).grownBy w5 v5.ownBlock) :
  RP w5 w.heap.size v6 rs ∧ w5.heap[w4.heap.size]? = some (.cells cs 86 (0, 0)) ∧ Below w.heap.size w w5 := by
 have R54 := Kd.R_below R5 hq
 refine ⟨Kd.R_grown2 (Kd.R_alloc (Kd.R_below R6 hq) _) rfl hg hap, blk_grown (blk_new w4 _) hg (fun e => ?_), pw_below_grown (below_alloc hb _) _ (below_alloc hb _).size hg (fun k hk => rp_base R5 k hk)⟩
 have := rp_lt R54 _ e.symm
 omega
def RdJ (w : World) (l : List Tk) (kq : Nat) (v5 v6 v7 : Value) (w' : World) : Prop := ∃ (i : Nat) (al st : List Trm.Pt), v7 = .int .i64 (i : Int) ∧ i + kq = l.length ∧ RP w' w.heap.size v5 (al.map toP) ∧ RP w' w.heap.size v6 (st.map toP) ∧ (∀ k, v5.ownBlock = some k → some k ≠ v6.ownBlock) ∧ Below w.heap.size w w' ∧ Trm.run i al st (l.drop i) = Trm.run 0 [] [] l ∧ al.length ≤ i ∧ st.length ≤ i ∧ ∀ p ∈ st, 1 ≤ p.f2 ∧ p.f2 ≤ (i : Int)
def RdPost (w : World) (l : List Tk) (e : Ending) (w' : World) : Prop := (match Trm.run 0 [] [] l with
 | none => e = .returned (.tuple #[.slice none 0 0, .slice none 0 0, .bool false])
 | some r => ∃ v1 v2, e = .returned (.tuple #[v1, v2, .bool true]) ∧ RP w' w.heap.size v1 (r.1.map toP) ∧ RP w' w.heap.size v2 (r.2.map toP)) ∧ Below w.heap.size w w'
theorem post_none {w w' : World} {l : List Tk} (h : none = Trm.run 0 [] [] l) (hb : Below w.heap.size w w') : RdPost w l (.returned (.tuple #[.slice none 0 0, .slice none 0 0, .bool false])) w' := by
 unfold RdPost
 rw [← h]
 exact ⟨rfl, hb⟩
set_option maxHeartbeats 16000000 in
set_option maxRecDepth 100000 in
theorem read3_calls (A : Option Addr) (c : Nat) (l : List Tk) (w : World) (hr : Kd.C k41 w A l.length l) (hl : l.length ≤ 512) (hok : ∀ t ∈ l, okT t = true) :
  Calls Tryz.prog 41 #[.slice A l.length c] w (RdPost w l) := by
 have HR := Aside0.mk hr
 have HL := Aside0.mk hl
 have HK := Aside0.mk hok
 clear hr hl hok
 go_enter Tryz.func41, Tryz.ntmps41
 go_wp2
 go_loopg [5, 6, 7] l.length (fun kq v5 v6 v7 w' => ∃ (vo vs vi : Value) (wq : World), vo = v5 ∧ vs = v6 ∧ vi = v7 ∧ wq = w' ∧ Aside0 (RdJ w l kq vo vs vi wq))
 case atStart => exact ⟨_, _, _, _, rfl, rfl, rfl, rfl, ⟨0, [], [], rfl, by omega, Kd.R_nil _ _ _ _ _, Kd.R_nil _ _ _ _ _, (fun k h => by cases h), Below.refl _ _, rfl, Nat.le_refl _, Nat.le_refl _, (fun p h => absurd h List.not_mem_nil)⟩⟩
 case round =>
  obtain ⟨vo, vs, vi, wq, h5, h6, h7, hwq, hrel⟩ := hrel
  subst h5
  subst h6
  subst hwq
  obtain ⟨i, al, st, hv, hi, R5, R6, hap, hb, hrun, hal, hst, hdp⟩ := hrel.out
  subst hv
  subst h7
  obtain ⟨ra, hra⟩ : ∃ ra, ra = al.map toP := ⟨_, rfl⟩
  obtain ⟨rs, hrs⟩ : ∃ rs, rs = st.map toP := ⟨_, rfl⟩
  rw [← hra] at R5
  rw [← hrs] at R6
  obtain ⟨A5, c5, rfl⟩ := Kd.R_slice R5
  obtain ⟨A6, c6, rfl⟩ := Kd.R_slice R6
  have hls : rs.length = st.length := by rw [hrs, List.length_map]
  have hla : ra.length = al.length := by rw [hra, List.length_map]
  have R5 := Aside0.mk R5
  have R6 := Aside0.mk R6
  have HAP := Aside0.mk hap
  have HB := Aside0.mk hb
  have HD := Aside0.mk hdp
  clear hrel hap hb hdp
  cases gk with
  | zero =>
   have hil : i = l.length := by omega
   subst hil
   rw [List.drop_length, Trm.run] at hrun
   have HRUN := Aside0.mk hrun
   have HE := Aside0.mk (And.intro hra hrs)
   have c1 : decide ((l.length : Int) < (l.length : Int)) = false := decide_eq_false (by omega)
   have c2 : decide (l.length < l.length) = false := decide_eq_false (by omega)
   clear hrun hra hrs hls hla hal hst hi
   go_wp2
   go_ret3
   unfold RdPost
   rw [← HRUN.out]
   exact ⟨⟨_, _, rfl, HE.out.1 ▸ R5.out, HE.out.2 ▸ R6.out⟩, HB.out⟩
  | succ k1 =>
   have hil : i < l.length := by omega
   obtain ⟨ad, ead, y0, y1⟩ := tok_at HR.out i hil rfl
   subst ead
   replace y0 := below_cell3 y0 HB.out
   replace y1 := below_cell3 y1 HB.out
   have hko := HK.out l[i] (List.getElem_mem hil)
   rw [List.drop_eq_getElem_cons hil, Trm.run] at hrun
   obtain ⟨⟨o, p⟩, hx⟩ : ∃ x : Tk, x = l[i] := ⟨_, rfl⟩
   rw [← hx] at y0 y1 hrun hko
   have hop : 0 ≤ o ∧ 0 ≤ p := by unfold okT at hko; simp only [Bool.and_eq_true, decide_eq_true_eq] at hko; exact ⟨hko.1.1.1, hko.1.2⟩
   have c1 : decide ((i : Int) < (l.length : Int)) = true := decide_eq_true (by omega)
   have c2 : decide (i < l.length) = true := decide_eq_true hil
   have p1 := eq_true (show (0 : Int) ≤ (i : Int) by omega)
   have p2 := eq_true hil
   have hw : Aside0 (wrap64 ((i : Int) + 1) = ((i + 1 : Nat) : Int)) := ⟨by have := HL.out; unfold wrap64; omega⟩
   have hs := step_cases i st ⟨o, p⟩
   generalize Trm.step i st ⟨o, p⟩ = q at hrun hs
   have hT : ∀ r, Trm.takesI o p = r → ∀ W, Calls Tryz.prog 32 #[.agg #[.int .u8 o, .int .u8 p]] W fun e w' => e = .returned (.int .i64 r) ∧ Below W.heap.size W w' := fun r h W => rejoinderref03_Takes.calls o p r W (by unfold rejoinderref03_Takes.f; rw [if_pos hop, h])
   cases hs with
   | none_ hn =>
    have HRUN := Aside0.mk (show none = Trm.run 0 [] [] l from hrun)
    have HT := Aside0.mk (hT (-1) (by unfold Trm.takesI; rw [show Trm.takesN o p = none from hn]))
    clear hT hrun hn hra hrs hls hla hal hst hi hil hx hko hop
    go_wp2_with (go_at_call 32; refine (HT.out _).mono ?_; rintro e w2 ⟨rfl, hq⟩; have HB2 := Aside0.mk (below_step HB.out hq); clear hq)
    go_ret3
    exact post_none HRUN.out HB2.out
   | @few n hn hlt =>
    have HRUN := Aside0.mk (show none = Trm.run 0 [] [] l from hrun)
    have HT := Aside0.mk (hT n (by unfold Trm.takesI; rw [show Trm.takesN o p = some n from hn]))
    have d1 : decide ((n : Int) < 0) = false := decide_eq_false (by omega)
    have d2 : decide ((rs.length : Int) < (n : Int)) = true := decide_eq_true (by omega)
    have d3 : decide (rs.length < n) = true := decide_eq_true (by omega)
    clear hT hrun hn hra hrs hls hla hal hst hi hil hx hko hop hlt
    go_wp2_with (go_at_call 32; refine (HT.out _).mono ?_; rintro e w2 ⟨rfl, hq⟩; have HB2 := Aside0.mk (below_step HB.out hq); clear hq)
    go_ret3
    exact post_none HRUN.out HB2.out
   | @bad n hn hle hf =>
    have hn2 : n ≤ 2 := Trm.takesN_le hn
    obtain ⟨m, hm⟩ : ∃ m, m = st.length - n := ⟨_, rfl⟩
    rw [← hm] at hf
    have hda : ((st.drop m).map toP).length = n := by rw [List.length_map, List.length_drop]; omega
    have hdr : rs.drop m = (st.drop m).map toP := by rw [hrs, List.map_drop]
    have HT := Aside0.mk (hT n (by unfold Trm.takesI; rw [show Trm.takesN o p = some n from hn]))
    obtain ⟨i0, hi0, _, hsz0, _⟩ := info_parts info86
    have hcut := cut_from (P := Tryz.prog) 64 86 .i64 Tryz.underlying64 hi0 4 hsz0 A6 rs.length c6 (m : Int) (by omega) (by omega)
    have hC6 := Kd.C_drop (m := m) (c := c6) (Kd.R_reads' R6.out).2.2 (by omega) (Kd.R_reads' R6.out).2.1
    rw [Int.toNat_natCast] at hcut
    have hmc : n ≤ c6 - m := by have := (Kd.R_reads' R6.out).2.1; omega
    rw [hdr, hda] at hC6
    rw [show rs.length - m = n by omega] at hcut
    obtain ⟨Aa, hAa⟩ : ∃ Aa, Aa = (if c6 = m then A6 else A6.map (·.add (m * 4))) := ⟨_, rfl⟩
    obtain ⟨ca, hca⟩ : ∃ ca, ca = c6 - m := ⟨_, rfl⟩
    replace hC6 : Kd.C k86 wq Aa n ((st.drop m).map toP) := by rw [hAa]; exact hC6
    rw [← hAa, ← hca] at hcut
    rw [← hca] at hmc
    have HF : Aside0 (∀ W, Below wq.heap.size wq W → Calls Tryz.prog 57 #[.int .u8 o, .slice Aa n ca] W fun e w' => e = .returned (.bool false) ∧ Drawn0 W w') := ⟨fun W hW => by
     have h := rejoinderref03_fits.calls o Aa ca ((st.drop m).map toP) false W (Kd.C_below (by rw [hda]; exact hC6) hW) (by rw [hda]; exact hmc) (by rw [fits_toP hn (by rw [List.length_drop]; omega)]; exact congrArg some hf)
     rw [hda] at h
     exact h⟩
    have d1 : decide ((n : Int) < 0) = false := decide_eq_false (by omega)
    have d2 : decide ((rs.length : Int) < (n : Int)) = false := decide_eq_false (by omega)
    have d3 : decide (rs.length < n) = false := decide_eq_false (by omega)
    have wm : IntKind.i64.wrap ((rs.length : Int) - (n : Int)) = (m : Int) := by rw [i64_w]; unfold wrap64; have := HL.out; omega
    have HRUN := Aside0.mk (show none = Trm.run 0 [] [] l from hrun)
    clear hT hrun hn hra hrs hls hla hal hst hi hil hx hko hop hle hf hm hda hdr hi0 hsz0 hC6 hmc hAa hca hn2
    go_wp2_with (first | (go_at_call 32; refine (HT.out _).mono ?_; rintro e w2 ⟨rfl, hq⟩; have HQ2 := Aside0.mk hq; have HB2 := Aside0.mk (below_step HB.out hq); replace y0 := below_cell3 y0 hq; replace y1 := below_cell3 y1 hq; clear hq) | (go_at_call 57; refine (HF.out _ HQ2.out).mono ?_; rintro e w3 ⟨rfl, ⟨nd, rfl⟩⟩))
    go_ret3
    exact post_none HRUN.out (pw_below_drewN HB2.out _)
   | @good n hn hle hf =>
    have hn2 : n ≤ 2 := Trm.takesN_le hn
    obtain ⟨m, hm⟩ : ∃ m, m = st.length - n := ⟨_, rfl⟩
    rw [← hm] at hf
    have hda : ((st.drop m).map toP).length = n := by rw [List.length_map, List.length_drop]; omega
    have hdr : rs.drop m = (st.drop m).map toP := by rw [hrs, List.map_drop]
    have HT := Aside0.mk (hT n (by unfold Trm.takesI; rw [show Trm.takesN o p = some n from hn]))
    obtain ⟨i0, hi0, _, hsz0, _⟩ := info_parts info86
    have hcut := cut_from (P := Tryz.prog) 64 86 .i64 Tryz.underlying64 hi0 4 hsz0 A6 rs.length c6 (m : Int) (by omega) (by omega)
    have hC6 := Kd.C_drop (m := m) (c := c6) (Kd.R_reads' R6.out).2.2 (by omega) (Kd.R_reads' R6.out).2.1
    rw [Int.toNat_natCast] at hcut
    have hmc : n ≤ c6 - m := by have := (Kd.R_reads' R6.out).2.1; omega
    rw [hdr, hda] at hC6
    rw [show rs.length - m = n by omega] at hcut
    obtain ⟨Aa, hAa⟩ : ∃ Aa, Aa = (if c6 = m then A6 else A6.map (·.add (m * 4))) := ⟨_, rfl⟩
    obtain ⟨ca, hca⟩ : ∃ ca, ca = c6 - m := ⟨_, rfl⟩
    replace hC6 : Kd.C k86 wq Aa n ((st.drop m).map toP) := by rw [hAa]; exact hC6
    rw [← hAa, ← hca] at hcut
    rw [← hca] at hmc
    have HF : Aside0 (∀ W, Below wq.heap.size wq W → Calls Tryz.prog 57 #[.int .u8 o, .slice Aa n ca] W fun e w' => e = .returned (.bool true) ∧ Drawn0 W w') := ⟨fun W hW => by
     have h := rejoinderref03_fits.calls o Aa ca ((st.drop m).map toP) true W (Kd.C_below (by rw [hda]; exact hC6) hW) (by rw [hda]; exact hmc) (by rw [fits_toP hn (by rw [List.length_drop]; omega)]; exact congrArg some hf)
     rw [hda] at h
     exact h⟩
    have d1 : decide ((n : Int) < 0) = false := decide_eq_false (by omega)
    have d2 : decide ((rs.length : Int) < (n : Int)) = false := decide_eq_false (by omega)
    have d3 : decide (rs.length < n) = false := decide_eq_false (by omega)
    have wm : IntKind.i64.wrap ((rs.length : Int) - (n : Int)) = (m : Int) := by rw [i64_w]; unfold wrap64; have := HL.out; omega
    obtain ⟨pm, hpm⟩ : ∃ pm : Rp, pm = toP (Trm.mk o i (st.drop m)) := ⟨_, rfl⟩
    have hdd : ∀ x ∈ st.drop m, 1 ≤ x.f2 ∧ x.f2 ≤ (i : Int) := fun x hx => HD.out x (List.mem_of_mem_drop hx)
    have HPT : Aside0 (∀ W, Below wq.heap.size wq W → Calls Tryz.prog 58 #[.agg #[.int .u8 o, .int .u8 p], .slice Aa n ca, .int .i64 (i : Int)] W fun e w' => e = .returned (.agg #[.bool pm.f0, .bool pm.f1, .int .i64 pm.f2, .int .i64 pm.f3]) ∧ Below W.heap.size W w') := ⟨fun W hW => by
     have h := rejoinderref03_put.calls o p Aa ca ((st.drop m).map toP) i pm.f0 pm.f1 pm.f2 pm.f3 W (Kd.C_below (by rw [hda]; exact hC6) hW) (by rw [hda]; exact hmc) (by rw [put_toP o p i (by rw [List.length_drop]; have := HL.out; omega) (fun x hx => by have := hdd x hx; have := HL.out; omega), hpm]; rfl)
     rw [hda] at h
     exact h⟩
    have hcut2 := cut_to (P := Tryz.prog) 64 86 .i64 Tryz.underlying64 hi0 A6 rs.length c6 (m : Int) (by omega) (by omega) (Kd.R_reads' R6.out).2.1
    rw [Int.toNat_natCast] at hcut2
    have HM := Aside0.mk (show m ≤ rs.length ∧ ra.length ≤ 512 ∧ rs.length ≤ 512 from ⟨by omega, by have := HL.out; omega, by have := HL.out; omega⟩)
    have HNX : Aside0 (al.map toP = ra ∧ st.map toP = rs ∧ (rs.take m ++ [pm]) = (st.take m ++ [Trm.mk o i (st.drop m)]).map toP ∧ (ra ++ [pm]) = (al ++ [Trm.mk o i (st.drop m)]).map toP ∧ Trm.run (i + 1) (al ++ [Trm.mk o i (st.drop m)]) (st.take m ++ [Trm.mk o i (st.drop m)]) (l.drop (i + 1)) = Trm.run 0 [] [] l ∧ (al ++ [Trm.mk o i (st.drop m)]).length ≤ i + 1 ∧ (st.take m ++ [Trm.mk o i (st.drop m)]).length ≤ i + 1 ∧ (i + 1 + k1 = l.length) ∧ ∀ q ∈ st.take m ++ [Trm.mk o i (st.drop m)], 1 ≤ q.f2 ∧ q.f2 ≤ ((i + 1 : Nat) : Int)) := ⟨hra.symm, hrs.symm, by rw [hrs, hpm, List.map_append, List.map_take]; rfl, by rw [hra, hpm, List.map_append]; rfl, by rw [hm]; exact hrun, by rw [List.length_append, List.length_singleton]; omega, by rw [List.length_append, List.length_singleton, List.length_take]; omega, by omega, fun q hq => by
     rcases List.mem_append.1 hq with hq | hq
     ·have := HD.out q (List.mem_of_mem_take hq); omega
     ·rw [List.mem_singleton.1 hq]; exact mk_depth hdd⟩
    clear hT hrun hn hra hrs hls hla hal hst hi hil hx hko hop hle hf hm hda hdr hi0 hsz0 hC6 hmc hAa hca hn2 hpm hdd HD
    go_wp2_with (first | (go_at_call 32; refine (HT.out _).mono ?_; rintro e w2 ⟨rfl, hq⟩; have HQ2 := Aside0.mk hq; have HB2 := Aside0.mk (below_step HB.out hq); replace y0 := below_cell3 y0 hq; replace y1 := below_cell3 y1 hq; clear hq) | (go_at_call 57; refine (HF.out _ HQ2.out).mono ?_; rintro e w3 ⟨rfl, ⟨nd, rfl⟩⟩) | (go_at_call 58; refine (HPT.out _ (pw_below_drewN HQ2.out _)).mono ?_; rintro e w4 ⟨rfl, hq⟩; have HQ4 := Aside0.mk (below_step (pw_below_drewN HQ2.out _) hq); have HB4 := Aside0.mk (below_step (pw_below_drewN HB2.out _) hq); have BP := Aside0.mk (blk_new w4 (.cells #[.bool pm.f0, .bool pm.f1, .int .i64 pm.f2, .int .i64 pm.f3] 86)); clear hq) | ((with_reducible refine gate_builtin (b := .append) (xs := #[.tmp 52, .tmp 54]) rfl ?_); at_builtin; refine rp_append (w' := w4.alloc (.cells #[.bool pm.f0, .bool pm.f1, .int .i64 pm.f2, .int .i64 pm.f3] 86)) pm rfl (.tmp 52) (.tmp 54) rfl rfl rfl (Kd.R_alloc (Kd.R_below R5.out HQ4.out) _) (by have := HB4.out.size; simp; omega) (by have := HM.out.2.1; omega) ?_; intro v1 w5 hR5 hg5 hat5; have hE := rp_first_grown R5.out R6.out HAP.out HQ4.out HB4.out hg5; obtain ⟨r6, bp5, hb5⟩ := hE; have R51 := Aside0.mk hR5; have R61 := Aside0.mk r6; have BP5 := bp5; have HB5 := Aside0.mk hb5; have e0w5 : w5.cell? ⟨w4.heap.size, 0, none⟩ = some (.bool pm.f0) := (blk_cell bp5 0).trans rfl; have e1w5 : w5.cell? ⟨w4.heap.size, 1, none⟩ = some (.bool pm.f1) := (blk_cell bp5 1).trans rfl; have e2w5 : w5.cell? ⟨w4.heap.size, 2, none⟩ = some (.int .i64 pm.f2) := (blk_cell bp5 2).trans rfl; have e3w5 : w5.cell? ⟨w4.heap.size, 3, none⟩ = some (.int .i64 pm.f3) := (blk_cell bp5 3).trans rfl; clear hR5 hg5 hat5 r6 bp5 hb5) | ((with_reducible refine gate_builtin (b := .append) (xs := #[.tmp 56, .tmp 62]) rfl ?_); at_builtin; refine rp_rows (w' := w5) rfl (.tmp 56) (.tmp 62) rfl rfl rfl (Kd.R_nil _ _ _ _ _) (rp_take R61.out HM.out.1) HB5.out.size (by have := HM.out.2.2; have := HM.out.1; simp; omega) ?_; intro v2 w6 hR6 hg6 hat6; replace hg6 : w5.grownBy w6 none := hg6; rw [List.nil_append] at hR6; have R62 := Aside0.mk hR6; have R52 := Aside0.mk (Kd.R_grown2 R51.out rfl hg6 (fun k hk => by cases hk)); have BP6 := blk_grown BP5 hg6 (fun e => by cases e); have HB6 := Aside0.mk (pw_below_grown HB5.out none HB5.out.size hg6 (fun k hk => by cases hk)); have HAT := Aside0.mk (rp_new R51.out hat6); have e0w6 : w6.cell? ⟨w4.heap.size, 0, none⟩ = some (.bool pm.f0) := (blk_cell BP6 0).trans rfl; have e1w6 : w6.cell? ⟨w4.heap.size, 1, none⟩ = some (.bool pm.f1) := (blk_cell BP6 1).trans rfl; have e2w6 : w6.cell? ⟨w4.heap.size, 2, none⟩ = some (.int .i64 pm.f2) := (blk_cell BP6 2).trans rfl; have e3w6 : w6.cell? ⟨w4.heap.size, 3, none⟩ = some (.int .i64 pm.f3) := (blk_cell BP6 3).trans rfl; clear hR6 hg6 hat6) | ((with_reducible refine gate_builtin (b := .append) (xs := #[.tmp 64, .tmp 66]) rfl ?_); at_builtin; refine rp_append (w' := w6) pm rfl (.tmp 64) (.tmp 66) rfl rfl rfl R62.out HB6.out.size (by have := HM.out.2.2; have := HM.out.1; rw [List.length_take]; omega) ?_; intro v3 w7 hR7 hg7 hat7; have R73 := Aside0.mk hR7; have R53 := Aside0.mk (Kd.R_grown2 R52.out rfl hg7 (fun k hk => HAT.out k hk)); have HB7 := Aside0.mk (pw_below_grown HB6.out _ HB6.out.size hg7 (fun k hk => rp_base R62.out k hk)); have HAP7 := Aside0.mk (rp_apart HAT.out R52.out hat7); clear hR7 hg7 hat7))
    go_roundg k1
    case measure => exact Nat.lt_succ_self _
    case rel => exact ⟨_, _, _, _, rfl, rfl, rfl, rfl, ⟨i + 1, _, _, by first | rfl | (show Value.int .i64 (wrap64 _) = _; rw [hw.out]), HNX.out.2.2.2.2.2.2.2.1, HNX.out.2.2.2.1 ▸ R53.out, HNX.out.2.2.1 ▸ R73.out, HAP7.out, HB7.out, HNX.out.2.2.2.2.1, HNX.out.2.2.2.2.2.1, HNX.out.2.2.2.2.2.2.1, HNX.out.2.2.2.2.2.2.2.2⟩⟩
theorem rp_cell {W : World} {A : Option Addr} {l : List Rp} (h : Kd.C k86 W A l.length l) (i : Nat) (hi : i < l.length) : ∃ ad, A = some ad ∧ W.cell? (ad.add (i * 4)) = some (.bool l[i].f0) ∧ W.cell? ⟨(ad.add (i * 4)).block, (ad.add (i * 4)).off + 2, none⟩ = some (.int .i64 l[i].f2) := by
 obtain ⟨ad, e1, h0, h1, h2, h3⟩ := at_T86 h (i : Int) (by omega) (by omega)
 have hx : rd_T86 l (i : Int) = l[i] := by unfold rd_T86; rw [Int.toNat_natCast, List.getD_eq_getElem?_getD, List.getElem?_eq_getElem hi]; rfl
 rw [Int.toNat_natCast, hx] at h0 h2
 exact ⟨ad, e1, h0, h2⟩
/-- What kind tells as an error; formula: may they be a formula's? path: a path's? -/
theorem kind_err (l : List Tk) (path : Bool) (h : l.length ≤ 512) (r : List Trm.Pt × List Trm.Pt) (hr : Trm.run 0 [] [] l = some r) :
  (chkT l path = 7 ∧ ¬ ∃ p, r.2 = [p] ∧ p.f0 = path) ∨ ∃ p, r.2 = [p] ∧ p.f0 = path ∧ chkT l path = if (r.1.any fun x => decide (x.f2 > 64)) = true then 8 else 0 := by
 unfold chkT
 rw [if_neg (by omega)]
 unfold Trm.checkN
 rw [hr]
 obtain ⟨all, st⟩ := r
 match st, hr with
 | [], _ => exact .inl ⟨rfl, by rintro ⟨p, h, _⟩; cases h⟩
 | _ :: _ :: _, _ => exact .inl ⟨rfl, by rintro ⟨p, h, _⟩; cases h⟩
 | [p], hr =>
  by_cases hp : p.f0 = path
  ·refine .inr ⟨p, rfl, hp, ?_⟩
   show (if p.f0 = path then (if p.f2 > 64 then 8 else 0) else 7) = _
   rw [if_pos hp]
   have hd := Trm.run_deep l 0 [] [] _ hr (fun _ h => absurd h List.not_mem_nil)
   have hlast : p ∈ all ∨ all = [] := by
    cases hl : l.reverse with
    | nil =>
     have : l = [] := by simpa using hl
     subst this
     rw [Trm.run] at hr
     cases hr
    | cons t u =>
     have : l = u.reverse ++ [t] := by have := congrArg List.reverse hl; simpa using this
     subst this
     obtain ⟨q0, q, -, -, e⟩ := Trm.run_snoc hr
     have e1 : all = q0.1 ++ [q.2] := congrArg Prod.fst e
     have e2 : [p] = q.1 ++ [q.2] := congrArg Prod.snd e
     have e3 : p = q.2 := by
      cases h1 : q.1 with
      | nil => rw [h1] at e2; cases e2; rfl
      | cons x y => rw [h1] at e2; have := congrArg List.length e2; simp at this
     rw [e1, e3]
     exact .inl (List.mem_append_right _ List.mem_cons_self)
   by_cases h64 : p.f2 > 64
   ·rw [if_pos h64]
    rcases hlast with hm | hn
    ·rw [if_pos (List.any_eq_true.2 ⟨p, hm, decide_eq_true h64⟩)]
    ·exfalso
     obtain ⟨R, hR, hRl⟩ := Trm.run_all _ _ _ _ _ hr
     rw [List.nil_append] at hR
     rw [← hR] at hRl
     have : all = [] := hn
     rw [this] at hRl
     have hl0 : l = [] := List.eq_nil_of_length_eq_zero hRl.symm
     subst hl0
     rw [Trm.run] at hr
     cases hr
   ·rw [if_neg h64, if_neg]
    intro ha
    obtain ⟨x, hx, hx2⟩ := List.any_eq_true.1 ha
    obtain ⟨q, hq, hle⟩ := hd x hx
    have : q = p := by simpa using hq
    subst this
    have := of_decide_eq_true hx2
    omega
  ·refine .inl ⟨?_, ?_⟩
   ·show (if p.f0 = path then _ else 7) = _
    rw [if_neg hp]
   ·rintro ⟨q, hq, hq2⟩
    cases hq
    exact hp hq2
def KindPost (w : World) (r : Int) (e : Ending) (w' : World) : Prop := ∃ v, e = .returned (.tuple #[v, .int .i64 r]) ∧ Below w.heap.size w w'
theorem kind_post {w w' : World} {v : Value} {r : Int} (h : Below w.heap.size w w') : KindPost w r (.returned (.tuple #[v, .int .i64 r])) w' := ⟨v, rfl, h⟩
set_option maxHeartbeats 16000000 in
set_option maxRecDepth 100000 in
theorem kind_calls (A : Option Addr) (c : Nat) (l : List Tk) (path : Bool) (w : World) (hr : Kd.C k41 w A l.length l) (hok : ∀ t ∈ l, okT t = true) :
  Calls Tryz.prog 31 #[.slice A l.length c, .bool (!path), .bool path] w (KindPost w (chkT l path)) := by
 by_cases hl : l.length > 512
 ·have c1 : decide ((512 : Int) < (l.length : Int)) = true := decide_eq_true (by omega)
  have c2 : decide (512 < l.length) = true := decide_eq_true hl
  rw [show chkT l path = 3 by unfold chkT; rw [if_pos hl]]
  have HB := Aside0.mk (Below.refl w.heap.size w)
  clear hr hok hl
  go_enter Tryz.func31, Tryz.ntmps31
  go_wp2
  go_ret2
  exact kind_post (by repeat (first | exact HB.out | apply below_alloc | apply pw_below_drewN | apply below_drew1))
 have c1 : decide ((512 : Int) < (l.length : Int)) = false := decide_eq_false (by omega)
 have c2 : decide (512 < l.length) = false := decide_eq_false (by omega)
 have HL : Aside0 (l.length ≤ 512) := ⟨by omega⟩
 have HR := Aside0.mk hr
 have HK := Aside0.mk hok
 clear hr hok hl
 cases hrun : Trm.run 0 [] [] l with
 | none =>
  have HRUN := Aside0.mk hrun
  rw [show chkT l path = 7 by unfold chkT; rw [if_neg (by have := HL.out; omega)]; unfold Trm.checkN; rw [hrun]]
  clear hrun
  go_enter Tryz.func31, Tryz.ntmps31
  go_wp2_with (go_at_call 41; refine (read3_calls A c l _ ?hc HL.out HK.out).mono ?_; (case hc => first | exact HR.out | exact Kd.C_drewN HR.out _ | exact Kd.C_drew HR.out); intro e w2 hp; unfold RdPost at hp; rw [HRUN.out] at hp; obtain ⟨rfl, hb⟩ := hp; have HB : Aside0 (Below w.heap.size w w2) := ⟨hb⟩; clear hb)
  go_ret2
  exact kind_post (by repeat (first | exact HB.out | apply below_alloc | apply pw_below_drewN | apply below_drew1))
 | some r =>
  have HRUN := Aside0.mk hrun
  obtain ⟨al, st⟩ := r
  have hk := kind_err l path HL.out (al, st) hrun
  clear hrun
  obtain ⟨ra, hra⟩ : ∃ ra, ra = al.map toP := ⟨_, rfl⟩
  rcases hk with ⟨h7, hne⟩ | ⟨p, hst, hpp, hkk⟩
  ·rw [h7]
   by_cases hs1 : st.length = 1
   ·match st, hs1, hne with
    | [p], _, hne =>
     have hpp : p.f0 ≠ path := fun h => hne ⟨p, rfl, h⟩
     clear hne h7 hra
     cases path
     all_goals
      first | have HP : Aside0 (p.f0 = true) := ⟨by simpa using hpp⟩ | have HP : Aside0 (p.f0 = false) := ⟨by simpa using hpp⟩
      clear hpp
      go_enter Tryz.func31, Tryz.ntmps31
      go_wp2_with (go_at_call 41; refine (read3_calls A c l _ ?hc HL.out HK.out).mono ?_; (case hc => first | exact HR.out | exact Kd.C_drewN HR.out _ | exact Kd.C_drew HR.out); intro e w2 hp; unfold RdPost at hp; rw [HRUN.out] at hp; obtain ⟨⟨v1, v2, rfl, h1, h2⟩, hb⟩ := hp; have HB : Aside0 (Below w.heap.size w w2) := ⟨hb⟩; obtain ⟨A1, c1, e1⟩ := Kd.R_slice h1; obtain ⟨A2, c2, e2⟩ := Kd.R_slice h2; replace e2 : v2 = .slice A2 1 c2 := e2; subst e2; obtain ⟨ad, ead, y0, _⟩ := rp_cell (Kd.R_reads' h2).2.2 0 (by simp); subst ead; rw [show 0 * 4 = 0 from rfl, Addr.add_zero'] at y0; replace y0 : w2.cell? ad = some (.bool p.f0) := y0; rw [HP.out] at y0; subst e1; clear hb h1 h2)
      go_ret2
      exact kind_post (by repeat (first | exact HB.out | apply below_alloc | apply pw_below_drewN | apply below_drew1))
   ·have d1 : (((st.map toP).length : Int) == 1) = false := beq_eq_false_iff_ne.2 (by rw [List.length_map]; omega)
    have d2 : (((st.map toP).length : Int) != 1) = true := bne_iff_ne.2 (by rw [List.length_map]; omega)
    obtain ⟨n2, hn2⟩ : ∃ n2, n2 = (st.map toP).length := ⟨_, rfl⟩
    rw [← hn2] at d1 d2
    have HN := Aside0.mk hn2
    clear hne h7 hra hs1 hn2
    go_enter Tryz.func31, Tryz.ntmps31
    go_wp2_with (go_at_call 41; refine (read3_calls A c l _ ?hc HL.out HK.out).mono ?_; (case hc => first | exact HR.out | exact Kd.C_drewN HR.out _ | exact Kd.C_drew HR.out); intro e w2 hp; unfold RdPost at hp; rw [HRUN.out] at hp; obtain ⟨⟨v1, v2, rfl, h1, h2⟩, hb⟩ := hp; have HB : Aside0 (Below w.heap.size w w2) := ⟨hb⟩; obtain ⟨A1, c1, e1⟩ := Kd.R_slice h1; obtain ⟨A2, c2, e2⟩ := Kd.R_slice h2; rw [← HN.out] at e2; subst e2; subst e1; clear hb h1 h2)
    go_ret2
    exact kind_post (by repeat (first | exact HB.out | apply below_alloc | apply pw_below_drewN | apply below_drew1))
  ·have hst' : st = [p] := hst
   subst hst'
   have hkk' : chkT l path = if (al.any fun x => decide (x.f2 > 64)) = true then 8 else 0 := hkk
   have hall : (al.any fun x => decide (x.f2 > 64)) = (ra.any fun x => decide (x.f2 > 64)) := by rw [hra, List.any_map]; rfl
   rw [hall] at hkk'
   rw [hkk']
   clear hkk hkk' hall hst
   obtain ⟨z, hz⟩ : ∃ z : Int, z = if (ra.any fun x => decide (x.f2 > 64)) = true then 8 else 0 := ⟨_, rfl⟩
   rw [← hz]
   have HZ := Aside0.mk hz
   clear hz
   have hlen : ra.length ≤ 512 := by
    obtain ⟨R, hR, hRl⟩ := Trm.run_all _ _ _ _ _ HRUN.out
    have e : al = R := by simpa using hR
    rw [hra, List.length_map, e, hRl]
    exact HL.out
   have HLR := Aside0.mk hlen
   have HRA := Aside0.mk hra
   clear hlen hra
   cases path
   all_goals
    have HP := Aside0.mk hpp
    clear hpp
    go_enter Tryz.func31, Tryz.ntmps31
    go_wp2_with (go_at_call 41; refine (read3_calls A c l _ ?hc HL.out HK.out).mono ?_; (case hc => first | exact HR.out | exact Kd.C_drewN HR.out _ | exact Kd.C_drew HR.out); intro e w2 hp; unfold RdPost at hp; rw [HRUN.out] at hp; obtain ⟨⟨v1, v2, rfl, h1, h2⟩, hb⟩ := hp; have HB : Aside0 (Below w.heap.size w w2) := ⟨hb⟩; obtain ⟨A1, c1, e1⟩ := Kd.R_slice h1; obtain ⟨A2, c2, e2⟩ := Kd.R_slice h2; replace e2 : v2 = .slice A2 1 c2 := e2; subst e2; obtain ⟨ad, ead, y0, _⟩ := rp_cell (Kd.R_reads' h2).2.2 0 (by simp); subst ead; rw [show 0 * 4 = 0 from rfl, Addr.add_zero'] at y0; replace y0 : w2.cell? ad = some (.bool p.f0) := y0; rw [HP.out] at y0; rw [← HRA.out] at e1 h1; subst e1; have R1 := Aside0.mk h1; clear hb h1 h2)
    go_loopg [11] ra.length (fun kq v11 w' => ∃ i : Nat, v11 = .int .i64 (i : Int) ∧ Aside0 (i + kq = ra.length) ∧ Aside0 ((ra.any fun x => decide (x.f2 > 64)) = ((ra.drop i).any fun x => decide (x.f2 > 64))) ∧ Aside0 (Below w2.heap.size w2 w'))
    case atStart => exact ⟨0, rfl, ⟨by omega⟩, ⟨rfl⟩, ⟨Below.refl _ _⟩⟩
    case round =>
     obtain ⟨i, rfl, hi, ha, HB3⟩ := hrel
     have ha := ha.out
     cases gk with
     | zero =>
      have hil : i = ra.length := by have := hi.out; omega
      subst hil
      rw [List.drop_length, List.any_nil] at ha
      have HA := Aside0.mk ha
      have d1 : decide (ra.length < ra.length) = false := decide_eq_false (by omega)
      have d2 : decide ((ra.length : Int) < (ra.length : Int)) = false := decide_eq_false (by omega)
      obtain rfl : z = 0 := by rw [HZ.out, HA.out]; rfl
      clear ha hi
      go_wp2
      go_ret2
      exact kind_post (below_step HB.out (by repeat (first | exact HB3.out | apply below_alloc | apply pw_below_drewN | apply below_drew1)))
     | succ k1 =>
      have hil : i < ra.length := by have := hi.out; omega
      obtain ⟨ad2, ead, y1, y2⟩ := rp_cell (Kd.R_reads' R1.out).2.2 i hil
      clear y1
      subst ead
      replace y2 := below_cell3 y2 HB3.out
      rw [List.drop_eq_getElem_cons hil, List.any_cons] at ha
      obtain ⟨x, hx⟩ : ∃ x, x = ra[i] := ⟨_, rfl⟩
      rw [← hx] at y2 ha
      have d1 : decide (i < ra.length) = true := decide_eq_true hil
      have d2 : decide ((i : Int) < (ra.length : Int)) = true := decide_eq_true (by omega)
      have p1 := eq_true (show (0 : Int) ≤ (i : Int) by omega)
      have p2 := eq_true hil
      have hw : Aside0 (wrap64 ((i : Int) + 1) = ((i + 1 : Nat) : Int)) := ⟨by have := HLR.out; unfold wrap64; omega⟩
      have hi1 : Aside0 (i + 1 + k1 = ra.length) := ⟨by have := hi.out; omega⟩
      clear hx hil hi
      by_cases h64 : (64 : Int) < x.f2
      ·have d3 : decide ((64 : Int) < x.f2) = true := decide_eq_true h64
       have HA : Aside0 ((ra.any fun x => decide (x.f2 > 64)) = true) := ⟨by rw [ha, show decide (x.f2 > 64) = true from d3]; rfl⟩
       obtain rfl : z = 8 := by rw [HZ.out, HA.out]; rfl
       clear ha h64
       go_wp2
       go_ret2
       exact kind_post (below_step HB.out (by repeat (first | exact HB3.out | apply below_alloc | apply pw_below_drewN | apply below_drew1)))
      ·have d3 : decide ((64 : Int) < x.f2) = false := decide_eq_false h64
       have HA : Aside0 ((ra.any fun x => decide (x.f2 > 64)) = ((ra.drop (i + 1)).any fun x => decide (x.f2 > 64))) := ⟨by rw [ha, show decide (x.f2 > 64) = false from d3]; rfl⟩
       clear ha h64
       go_wp2
       go_roundg k1
       case measure => exact Nat.lt_succ_self _
       case rel => exact ⟨i + 1, by first | rfl | (show Value.int .i64 (wrap64 _) = _; rw [hw.out]), hi1, HA, ⟨by repeat (first | exact HB3.out | apply below_alloc | apply pw_below_drewN | apply below_drew1)⟩⟩
def rejoinderref03_Check.f (l : List Tk) : Option Int := if l.all okT = true then some (chkT l false) else none
def rejoinderref03_Path.f (l : List Tk) : Option Int := if l.all okT = true then some (chkT l true) else none
theorem rejoinderref03_Check.calls (A0 : Option Addr) (c0 : Nat) (l0 : List Tk) (r : Int) (w : World) (hr0 : Kd.C k41 w A0 l0.length l0) (hc0 : l0.length ≤ c0) (h : rejoinderref03_Check.f l0 = some r) :
  Calls Tryz.prog 17 #[.slice A0 l0.length c0] w fun e w' => e = .returned (.int .i64 r) ∧ Below w.heap.size w w' := by
 unfold rejoinderref03_Check.f at h
 split at h
 rotate_left
 ·cases h
 rename_i hok
 obtain rfl := Option.some.inj h
 have HK := Aside0.mk (fun nd => kind_calls A0 c0 l0 false (w.drewN nd) (Kd.C_drewN hr0 nd) (List.all_eq_true.1 hok))
 clear h hr0 hok hc0
 go_enter Tryz.func17, Tryz.ntmps17
 go_wp2_with (go_at_call 31; refine (HK.out 0).mono ?_; rintro e w2 ⟨v, rfl, hb⟩; have HB : Aside0 (Below w.heap.size w w2) := ⟨hb⟩; clear hb)
 go_ret
 exact ⟨rfl, by repeat (first | exact HB.out | apply below_alloc | apply pw_below_drewN | apply below_drew1)⟩
theorem rejoinderref03_Path.calls (A0 : Option Addr) (c0 : Nat) (l0 : List Tk) (r : Int) (w : World) (hr0 : Kd.C k41 w A0 l0.length l0) (hc0 : l0.length ≤ c0) (h : rejoinderref03_Path.f l0 = some r) :
  Calls Tryz.prog 20 #[.slice A0 l0.length c0] w fun e w' => e = .returned (.int .i64 r) ∧ Below w.heap.size w w' := by
 unfold rejoinderref03_Path.f at h
 split at h
 rotate_left
 ·cases h
 rename_i hok
 obtain rfl := Option.some.inj h
 have HK := Aside0.mk (fun nd => kind_calls A0 c0 l0 true (w.drewN nd) (Kd.C_drewN hr0 nd) (List.all_eq_true.1 hok))
 clear h hr0 hok hc0
 go_enter Tryz.func20, Tryz.ntmps20
 go_wp2_with (go_at_call 31; refine (HK.out 0).mono ?_; rintro e w2 ⟨v, rfl, hb⟩; have HB : Aside0 (Below w.heap.size w w2) := ⟨hb⟩; clear hb)
 go_ret
 exact ⟨rfl, by repeat (first | exact HB.out | apply below_alloc | apply pw_below_drewN | apply below_drew1)⟩
end Go.Proofs.YtaogoabnidbbpaaGreatDoor.PText
namespace Go.Proofs.YtaogoabnidbbpaaGreatDoor.PText
open Go.RowKit Go.Proofs.YtaogoabnidbbpaaGreatDoorW.PrintWords Go.Proofs.YtaogoabnidbbpaaGreatDoorW.PrintLast Go.Proofs.YtaogoabnidbbpaaGreatDoorW.PrintMore
set_option linter.unusedVariables false
set_option linter.unusedSimpArgs false
theorem chk3 {l : List Tk} (h : ∀ t ∈ l, okT t = true) : rejoinderref03_Check.f l = some (chkT l false) ∧ rejoinderref03_Path.f l = some (chkT l true) := by
 unfold rejoinderref03_Check.f rejoinderref03_Path.f
 rw [if_pos (List.all_eq_true.2 h), if_pos (List.all_eq_true.2 h)]
 exact ⟨rfl, rfl⟩
theorem rejoinderref05_read.calls (A0 : Option Addr) (c0 : Nat) (l0 : List ByteArray) (a1 : ByteArray) (a2 : Bool) (r1 : List (S41)) (r2 : Int) (r3 : Int) (w : World) (hr0 : Kd.C Kd.string w A0 l0.length l0) (hc0 : l0.length ≤ c0) (h : rejoinderref05_read.f l0 a1 a2 = some (r1, r2, r3)) :
  Calls Tryz.prog 36 #[.slice A0 l0.length c0, .string a1, .bool a2] w fun e w' => ∃ v0_ : Value, e = .returned (.tuple #[v0_, .int .i64 r2, .int .i64 r3]) ∧ Kd.R k41 41 w' w.heap.size (fun _ => True) v0_ r1 ∧ Below w.heap.size w w' := by
 unfold rejoinderref05_read.f at h
 have h := Option.some.inj h
 have hsz : a1.data.toList.length = a1.size := size_eq a1
 obtain ⟨k, hk⟩ := (words2_ev a1).rounds
 have hwl := words_len a1.data.toList
 have hne := words_ne a1.data.toList
 have hat := words_at a1.data.toList
 unfold readL at h
 obtain ⟨ws, er, a, hw⟩ : ∃ ws er a, wordsL a1.data.toList = (ws, er, a) := ⟨_, _, _, rfl⟩
 rw [hw] at h hk hwl hne hat
 rw [hsz] at h
 by_cases h0 : chk l0 = 0
 ·rw [if_pos h0] at h
  by_cases h1 : er = 0
  ·subst h1
   obtain rfl : a = 0 := hat rfl
   rw [if_pos ⟨rfl, rfl⟩] at h
   have := read2_main A0 c0 l0 a1 a2 w hr0 hc0 h0 k ws hk hwl hne (fun A c l W hC hc hok => rejoinderref03_Check.calls A c l _ W hC hc (chk3 hok).1) (fun A c l W hC hc hok => rejoinderref03_Path.calls A c l _ W hC hc (chk3 hok).2)
   rw [show endL a2 (readW l0 a1.size (roundsFor ws) (ntOf a2) ws) = (r1, r2, r3) from h] at this
   exact this
  ·rw [if_neg (fun hh => h1 hh.1)] at h
   cases h
   exact read2_words A0 c0 l0 a1 a2 w hr0 hc0 h0 k ws er a hk h1
 ·rw [if_neg h0] at h
  cases h
  exact read2_names A0 c0 l0 a1 a2 w hr0 hc0 h0
end Go.Proofs.YtaogoabnidbbpaaGreatDoor.PText
