/- Texts of this work merged into one file, what the law does not need left out: TellsLent. Conditions stand in each law. -/
import Derived.Laws.CopyOwn
import Derived.Laws.CopyRow
import Derived.IntWalk
import Derived.Test.YtaogoabnidbbpaaGreatDoorSt12
import Derived.Test.YtaogoabnidbbpaaGreatDoorSt25
import Derived.Test.YtaogoabnidbbpaaGreatDoorSt29
namespace Go.Proofs.YtaogoabnidbbpaaGreatDoor.PText
open Go.RowKit Go.Proofs.YtaogoabnidbbpaaGreatDoorW.PrintWords Go.Proofs.YtaogoabnidbbpaaGreatDoorW.PrintLast Go.Proofs.YtaogoabnidbbpaaGreatDoorW.PrintMore Go.Proofs.YtaogoabnidbbpaaGreatDoorW.Aid
set_option linter.unusedVariables false
set_option linter.unusedSimpArgs false
/-- Tokens as cells. -/
def tokC (l : List Tk) : List Value := l.flatMap fun t => [.int .u8 t.f0, .int .u8 t.f1]
theorem tokC_nil : tokC [] = [] := rfl
theorem tokC_cons (t : Tk) (l : List Tk) : tokC (t :: l) = .int .u8 t.f0 :: .int .u8 t.f1 :: tokC l := rfl
theorem tokC_len (l : List Tk) : (tokC l).length = l.length * 2 := by
 induction l with
 | nil => rfl
 | cons t l ih => rw [tokC_cons, List.length_cons, List.length_cons, List.length_cons, ih]; omega
theorem tokC_app (a b : List Tk) : tokC (a ++ b) = tokC a ++ tokC b := by unfold tokC; rw [List.flatMap_append]
theorem tokC_one (l : List Tk) : ∀ v ∈ tokC l, v.oneCell' = true := by
 induction l with
 | nil => exact fun v h => absurd h List.not_mem_nil
 | cons t l ih =>
  intro v hv
  rw [tokC_cons] at hv
  rcases List.mem_cons.1 hv with rfl | hv
  ·rfl
  rcases List.mem_cons.1 hv with rfl | hv
  ·rfl
  exact ih v hv
theorem tokC_get (l : List Tk) : ∀ j : Nat, (tokC l)[j * 2]? = (l[j]?).map (fun t => Value.int .u8 t.f0) ∧ (tokC l)[j * 2 + 1]? = (l[j]?).map (fun t => Value.int .u8 t.f1) := by
 induction l with
 | nil => intro j; simp [tokC_nil]
 | cons t l ih =>
  intro j
  rw [tokC_cons]
  cases j with
  | zero => exact ⟨rfl, rfl⟩
  | succ j =>
   rw [show (j + 1) * 2 = j * 2 + 1 + 1 by omega]
   simp only [List.getElem?_cons_succ]
   exact ih j
theorem tokC_set (l : List Tk) (a b : Int) : ∀ j : Nat, ((tokC l).set (j * 2) (.int .u8 a)).set (j * 2 + 1) (.int .u8 b) = tokC (l.set j ⟨a, b⟩) := by
 induction l with
 | nil => intro j; rfl
 | cons t l ih =>
  intro j
  cases j with
  | zero => rfl
  | succ j =>
   rw [tokC_cons, List.set_cons_succ, tokC_cons, show (j + 1) * 2 = j * 2 + 1 + 1 by omega, ← ih j]
   rfl
theorem tokC_C {W : World} {g : Nat} {L : List Tk} (h : W.heap[g]? = some (.cells (tokC L).toArray 41 (0, 0))) (hl : L.length ≤ 1000000) : Kd.C k41 W (some ⟨g, 0, none⟩) L.length L := by
 refine ⟨rfl, by omega, fun _ => ⟨_, rfl, fun j p hj => ?_⟩⟩
 refine ⟨[.int .u8 p.f0, .int .u8 p.f1], rfl, k41_mk _ _, fun i u hu => ?_⟩
 have hi : i = 0 ∨ i = 1 := by have := (List.getElem?_eq_some_iff.1 hu).1; simp at this; omega
 rw [show ((⟨g, 0, none⟩ : Addr).add (j * k41.sz + i)) = ⟨g, j * 2 + i, none⟩ by show (⟨g, 0, none⟩ : Addr).add (j * 2 + i) = _; unfold Addr.add; split <;> simp_all]
 rw [blk_cell h]
 have h2 := tokC_get L j
 rw [hj] at h2
 rcases hi with rfl | rfl
 ·rw [Nat.add_zero]
  simpa using h2.1.trans (by simpa using hu)
 ·simpa using h2.2.trans (by simpa using hu)
theorem reps_tok {W : World} {l : List Tk} {inner : List Value} (h : Reps (k41.K W) 2 l inner) : inner = tokC l := by
 obtain ⟨hlen, hj⟩ := h
 apply List.ext_getElem?
 intro i
 have hi : i = i / 2 * 2 ∨ i = i / 2 * 2 + 1 := by omega
 have hg := tokC_get l (i / 2)
 rcases Nat.lt_or_ge (i / 2) l.length with hlt | hge
 ·have h1 := k41_open (hj (i / 2) _ (List.getElem?_eq_getElem hlt))
  have h2 : ((inner.drop (i / 2 * 2)).take 2)[0]? = some (.int .u8 l[i / 2].f0) ∧ ((inner.drop (i / 2 * 2)).take 2)[1]? = some (.int .u8 l[i / 2].f1) := by rw [h1]; exact ⟨rfl, rfl⟩
  rw [List.getElem?_take_of_lt (by omega), List.getElem?_take_of_lt (by omega), List.getElem?_drop, List.getElem?_drop] at h2
  rw [List.getElem?_eq_getElem hlt] at hg
  rcases hi with hi | hi
  ·rw [hi, hg.1]; exact h2.1
  ·rw [hi, hg.2]; exact h2.2
 ·rw [List.getElem?_eq_none (by omega), List.getElem?_eq_none (by rw [tokC_len]; omega)]
def mark (q : Nat) : Tk := ⟨2, 200 + (q : Int) % 50⟩
/-- The copy, with the first j marks. -/
def lentT (l : List Tk) : Nat → List Tk
 | 0 => l ++ [⟨0, 0⟩, ⟨0, 0⟩, ⟨0, 0⟩]
 | 1 => l ++ [mark l.length, ⟨0, 0⟩, ⟨0, 0⟩]
 | 2 => l ++ [mark l.length, mark (l.length + 1), ⟨0, 0⟩]
 | _ => l ++ [mark l.length, mark (l.length + 1), mark (l.length + 2)]
theorem lentT_len (l : List Tk) (j : Nat) : (lentT l j).length = l.length + 3 := by unfold lentT; split <;> simp
theorem lentT_take (l : List Tk) (j : Nat) : (lentT l j).take l.length = l := by unfold lentT; split <;> simp
theorem lentT_set (l : List Tk) (j : Nat) (h : j < 3) : (lentT l j).set (l.length + j) (mark (l.length + j)) = lentT l (j + 1) := by
 have e : ∀ (r : List Tk) (k : Nat) (x : Tk), (l ++ r).set (l.length + k) x = l ++ r.set k x := fun r k x => by
  rw [List.set_append_right _ _ (by omega), show l.length + k - l.length = k by omega]
 match j, h with
 | 0, _ => exact e _ 0 _
 | 1, _ => exact e _ 1 _
 | 2, _ => exact e _ 2 _
theorem made_two (m : Nat) : (madeCells #[Value.int .u8 0, .int .u8 0] m).toList = List.replicate m (.int .u8 0) := by
 apply List.ext_getElem?
 intro i
 rcases Nat.lt_or_ge i m with h | h
 ·rw [List.getElem?_replicate_of_lt h]
  have h2 : i % 2 = 0 ∨ i % 2 = 1 := by omega
  rcases h2 with h2 | h2 <;> simp [madeCells, h, h2]
 ·rw [List.getElem?_eq_none (by simp [madeCells]; omega), List.getElem?_eq_none (by simp; omega)]
theorem size_tok : (Tryz.prog.info? 41).map (·.size) = some 2 := by kernel_rfl
theorem copy2_run (w : World) (ty : TypeId) (g dLen dCap : Nat) (a : Addr) (sLen sCap : Nat) (cur : Array Value) (t : TypeId) (cs : List Value)
  (hg : w.heap[g]? = some (.cells cur t (0, 0))) (hn : cs.length = Nat.min sLen dLen * 2) (hsrc : ∀ j v, cs[j]? = some v → w.cell? (a.add j) = some v) (hfit : cs.length ≤ cur.size) (h1 : ∀ v ∈ cs, v.oneCell' = true) :
  (Builtin.copy_ #[23, 23] ty #[.slice (some ⟨g, 0, none⟩) dLen dCap, .slice (some a) sLen sCap]).run Tryz.prog w = .ok (goInt (Nat.min sLen dLen)) (w.setRow g (cs ++ cur.toList.drop cs.length).toArray) := by
 have hl := run_loadCells_list (P := Tryz.prog) w a cs hsrc
 have hst := run_storeCells_at Tryz.prog g 0 t cs 0 cur w hg (by simpa using hfit) h1
 simp only [Nat.add_zero, Nat.zero_add, List.take_zero, List.nil_append] at hst
 have hs := size_tok
 cases hq : Tryz.prog.info? 41 with
 | none => simp [hq] at hs
 | some i =>
  have hi : i.size = 2 := by simpa [hq] using hs
  simp [Builtin.copy_, run_underlying Tryz.underlying23, Builtin.lenOf, Builtin.firstCells, sizeOf, typeInfo, hq, hi, ← hn, hl, hst]
theorem copy2_none (w : World) (ty : TypeId) (d : Addr) (dLen dCap c : Nat) :
  (Builtin.copy_ #[23, 23] ty #[.slice (some d) dLen dCap, .slice none 0 c]).run Tryz.prog w = .ok (goInt 0) w := by
 have hs := size_tok
 cases hq : Tryz.prog.info? 41 with
 | none => simp [hq] at hs
 | some i => simp [Builtin.copy_, run_underlying Tryz.underlying23, Builtin.lenOf, Builtin.firstCells, sizeOf, typeInfo, hq, storeCells]
theorem copy2 (w : World) (ty : TypeId) (g c : Nat) (A : Option Addr) (l : List Tk) (hC : Kd.C k41 w A l.length l) (hg : w.heap[g]? = some (.cells (madeCells #[.int .u8 0, .int .u8 0] ((l.length + 3) * 2)) 41 (0, 0))) :
  ∃ w', (Builtin.copy_ #[23, 23] ty #[.slice (some ⟨g, 0, none⟩) (l.length + 3) (l.length + 3), .slice A l.length c]).run Tryz.prog w = .ok (goInt l.length) w' ∧ w'.heap[g]? = some (.cells (tokC (lentT l 0)).toArray 41 (0, 0)) ∧ ∀ B w0, Below B w0 w → B ≤ g → Below B w0 w' := by
 have hd : ∀ m, m ≤ l.length → (madeCells #[Value.int .u8 0, .int .u8 0] ((l.length + 3) * 2)).toList.drop (m * 2) = List.replicate ((l.length + 3 - m) * 2) (.int .u8 0) := fun m hm => by
  rw [made_two, List.drop_replicate]
  congr 1
  omega
 have he : tokC l ++ List.replicate ((l.length + 3 - l.length) * 2) (Value.int .u8 0) = tokC (lentT l 0) := by
  rw [show (l.length + 3 - l.length) * 2 = 6 by omega]
  show _ = tokC (l ++ _)
  rw [tokC_app]
  rfl
 cases A with
 | none =>
  have hl : l = [] := by
   cases l with
   | nil => rfl
   | cons x t => obtain ⟨ad, e, _⟩ := hC.2.2 (by simp); cases e
  subst hl
  refine ⟨w, copy2_none w ty _ _ _ c, ?_, fun _ _ h _ => h⟩
  rw [hg]
  congr 2
  apply Array.ext'
  have := hd 0 (Nat.le_refl _)
  rw [Nat.zero_mul, List.drop_zero] at this
  rw [this, ← he]
  rfl
 | some a =>
  obtain ⟨inner, hr, hc⟩ := ReadsRow.inner_ hC
  have hi := reps_tok hr
  subst hi
  have hmin : Nat.min l.length (l.length + 3) = l.length := Nat.min_eq_left (by omega)
  have h := copy2_run w ty g (l.length + 3) (l.length + 3) a l.length c _ 41 (tokC l) hg (by rw [tokC_len, hmin]) hc (by rw [tokC_len, size_madeCells]; omega) (tokC_one l)
  rw [tokC_len, hd l.length (Nat.le_refl _), he, hmin] at h
  exact ⟨_, h, setRow_heap w g _ _ 41 _ hg, fun B w0 hb hB => below_setRow hb hB _⟩
theorem copy_wp (w : World) {ops : Array Oper} {rest : List Oper} {o : Oper} {a : Act} {Q : Exit → Act → World → Prop} (hgd : o.guard = none) (d s : Operand)
  (ho : o.op = .call { callee := .builtin .copy, args := #[d, s], argTypes := #[23, 23] }) (v u : Value) (hd : a.eval d = v) (hs : a.eval s = u) {v' : Value} {w' : World}
  (hr : (Builtin.copy_ #[23, 23] o.type #[v, u]).run Tryz.prog w = .ok v' w') (h : wpList Tryz.prog ops Q rest (a.put o.dst v') w') : wpList Tryz.prog ops Q (o :: rest) a w := by
 refine wpList_plain hgd fun K hK => ?_
 unfold Oper.wp execOp
 simp only [ho, resolve, invoke, builtin, Sem.run_bind, Sem.run_pure, Result.andThen_ok, List.map_toArray, List.map_cons, List.map_nil, hd, hs, hr]
 exact hK _ _ h
set_option maxHeartbeats 8000000 in
set_option maxRecDepth 100000 in
theorem lent_calls (A : Option Addr) (c : Nat) (l : List Tk) (w : World) (hC : Kd.C k41 w A l.length l) (hm : l.length ≤ 600) :
  Calls Tryz.prog 4 #[.slice A l.length c] w fun e w' => ∃ g, e = .returned (.slice (some ⟨g, 0, none⟩) l.length (l.length + 3)) ∧ w.heap.size ≤ g ∧ w'.heap[g]? = some (.cells (tokC (lentT l 3)).toArray 41 (0, 0)) ∧ Below w.heap.size w w' := by
 have HC := Aside0.mk hC
 have HM := Aside0.mk hm
 have hmk : ∀ W : World, (Instr.makeSlice 23 (.int .i64 ((l.length : Int) + 3)) (.int .i64 ((l.length : Int) + 3))).run Tryz.prog W = .ok (.slice (some ⟨W.heap.size, 0, none⟩) (l.length + 3) (l.length + 3)) (W.alloc (.cells (madeCells #[.int .u8 0, .int .u8 0] ((l.length + 3) * 2)) 41)) := by
  intro W
  obtain ⟨i, hi, hzz⟩ := Option.map_eq_some_iff.1 info41
  simp only [Prod.mk.injEq] at hzz
  obtain ⟨hz, hs, hb⟩ := hzz
  have hr := run_make (P := Tryz.prog) W 23 41 i _ Tryz.underlying23 hi hz .i64 .i64 ((l.length + 3 : Nat) : Int) ((l.length + 3 : Nat) : Int) (by omega) (by omega) (by rw [hb]; omega) (by omega)
  rw [hs, Int.toNat_natCast] at hr
  simpa [Value.cells] using hr
 obtain ⟨n, hn⟩ : ∃ n, n = l.length := ⟨_, rfl⟩
 rw [← hn]
 rw [← hn] at hmk
 have HN := Aside0.mk hn
 have w3 : IntKind.i64.wrap ((n : Int) + 3) = (n : Int) + 3 := IntWalk.i64_in _ (by omega)
 clear hC hm hn
 go_enter Tryz.func4, Tryz.ntmps4
 go_wp2_with ((with_reducible refine gate_builtin (b := .copy) (xs := #[.tmp 9, .tmp 10]) rfl ?_); (obtain ⟨w2, hr, hg2, hb2⟩ := copy2 (w.alloc (.cells (madeCells #[.int .u8 0, .int .u8 0] ((l.length + 3) * 2)) 41)) 3 w.heap.size c A l (Kd.C_alloc HC.out _) (blk_new _ _); rw [← HN.out] at hr; refine copy_wp _ rfl (.tmp 9) (.tmp 10) rfl _ _ rfl rfl hr ?_; have HG := Aside0.mk hg2; have HB := Aside0.mk (hb2 w.heap.size w (below_alloc (Below.refl _ _) _) (Nat.le_refl _)); clear hr hg2 hb2))
 go_loopg [4] 3 (fun kq v4 w' => ∃ j : Nat, v4 = .int .i64 ((n + j : Nat) : Int) ∧ Aside0 (j + kq = 3) ∧ Aside0 (w'.heap[w.heap.size]? = some (.cells (tokC (lentT l j)).toArray 41 (0, 0))) ∧ Aside0 (Below w.heap.size w w'))
 case atStart => exact ⟨0, by first | rfl | simp, ⟨rfl⟩, HG, HB⟩
 case round =>
  clear HG HB
  obtain ⟨j, rfl, hj, HG, HB⟩ := hrel
  have hjj := hj.out
  cases gk with
  | zero =>
   obtain rfl : j = 3 := by omega
   have d1 : decide (((n + 3 : Nat) : Int) < (n : Int) + 3) = false := decide_eq_false (by omega)
   have d2 : decide (n + 3 < n + 3) = false := decide_eq_false (by omega)
   clear hj hjj
   go_wp2
   go_ret
   exact ⟨_, rfl, Nat.le_refl _, HG.out, HB.out⟩
  | succ k1 =>
   have hlt : j < 3 := by omega
   have g1 : ((n + j : Nat) : Int) < (n : Int) + 3 := by omega
   have g3 : n + j < n + 3 := by omega
   have g0 : (0 : Int) ≤ ((n + j : Nat) : Int) := by omega
   have g2 : ((n + j : Nat) : Int) ≤ 1000 := by have := HM.out; have := HN.out; omega
   have hs := tokC_get (lentT l j) (n + j)
   have hel : (lentT l j)[n + j]? = some ((lentT l j)[n + j]'(by rw [lentT_len, ← HN.out]; omega)) := List.getElem?_eq_getElem _
   obtain ⟨x, hx⟩ : ∃ x, (lentT l j)[n + j]? = some x := ⟨_, hel⟩
   rw [hx] at hs
   have c0 : wr.cell? ⟨w.heap.size, (n + j) * 2, none⟩ = some (.int .u8 x.f0) := (blk_cell HG.out _).trans (by simpa using hs.1)
   have c1 : wr.cell? ⟨w.heap.size, (n + j) * 2 + 1, none⟩ = some (.int .u8 x.f1) := (blk_cell HG.out _).trans (by simpa using hs.2)
   have z0 := blk_frozen HG.out ((n + j) * 2)
   have z1 := blk_frozen HG.out ((n + j) * 2 + 1)
   have hset : Aside0 ((((tokC (lentT l j)).toArray.setIfInBounds ((n + j) * 2) (.int .u8 2)).setIfInBounds ((n + j) * 2 + 1) (.int .u8 (200 + ((n + j : Nat) : Int) % 50))) = (tokC (lentT l (j + 1))).toArray) := ⟨by
    simp only [List.setIfInBounds_toArray]
    rw [tokC_set, ← lentT_set l j hlt, HN.out]
    rfl⟩
   have hj1 : Aside0 (j + 1 + k1 = 3) := ⟨by omega⟩
   have hw : Aside0 (wrap64 (((n + j : Nat) : Int) + 1) = ((n + (j + 1) : Nat) : Int)) := ⟨by unfold wrap64; omega⟩
   clear hs hel hx hj hjj hlt
   generalize hq : n + j = q at g0 g1 g2 g3 c0 c1 z0 z1 hset hw
   have HQ := Aside0.mk hq
   clear hq
   go_wp2
   go_roundg k1
   case measure => exact Nat.lt_succ_self _
   case rel => exact ⟨j + 1, congrArg (Value.int .i64) (by have := HQ.out; omega), hj1, ⟨blk_put (blk_put HG.out (q * 2) _ rfl) (q * 2 + 1) _ hset.out⟩, ⟨below_set (below_set HB.out (Nat.le_refl _)) (Nat.le_refl _)⟩⟩
theorem same_lent {g g2 : Nat} {l : List Tk} (hm : l.length ≤ 600) {w : World} (h1 : w.heap[g]? = some (.cells (tokC (lentT l 3)).toArray 41 (0, 0))) (h2 : w.heap[g2]? = some (.cells (tokC (lentT l 3)).toArray 41 (0, 0))) :
  Calls Tryz.prog 23 #[.slice (some ⟨g, 0, none⟩) (l.length + 3) (l.length + 3), .slice (some ⟨g2, 0, none⟩) (l.length + 3) (l.length + 3)] w fun e w' => e = .returned (.bool true) ∧ Drawn0 w w' := by
 have hl := lentT_len l 3
 obtain ⟨k, hk⟩ := (Trm.same_ev (lentT l 3) (by omega)).rounds
 have h := rejoinderkit_SameToks.calls k (some ⟨g, 0, none⟩) (l.length + 3) (lentT l 3) (some ⟨g2, 0, none⟩) (l.length + 3) (lentT l 3) true w (tokC_C h1 (by omega)) (by omega) (tokC_C h2 (by omega)) (by omega) hk
 rw [hl] at h
 exact h
set_option maxHeartbeats 8000000 in
set_option maxRecDepth 100000 in
theorem kept_calls (A : Option Addr) (c g : Nat) (l : List Tk) (w : World) (hC : Kd.C k41 w A l.length l) (hm : l.length ≤ 600) (hg : w.heap[g]? = some (.cells (tokC (lentT l 3)).toArray 41 (0, 0))) :
  Calls Tryz.prog 12 #[.slice (some ⟨g, 0, none⟩) l.length (l.length + 3), .slice A l.length c] w fun e w' => e = .returned (.bool true) ∧ Below w.heap.size w w' := by
 have HL := Aside0.mk (fun W h => lent_calls A c l W h hm)
 have HS := Aside0.mk (fun g2 W h1 h2 => same_lent (g := g) (g2 := g2) (l := l) hm (w := W) h1 h2)
 have HC := Aside0.mk hC
 have HG := Aside0.mk hg
 obtain ⟨n, hn⟩ : ∃ n, n = l.length := ⟨_, rfl⟩
 rw [← hn] at HL HS HC ⊢
 have g0 : (0 : Int) ≤ (n : Int) + 3 := by omega
 have g1 : (n : Int) + 3 ≤ ((n + 3 : Nat) : Int) := by omega
 have g2 : ((n : Int) + 3).toNat = n + 3 := by omega
 have hgg : ((n : Int) == (n : Int)) = true := by simp
 have hw : IntKind.i64.wrap ((n : Int) + 3) = (n : Int) + 3 := IntWalk.i64_in _ (by omega)
 clear hC hg hn hm
 go_enter Tryz.func12, Tryz.ntmps12
 go_wp2
 go_region_held3 (fun w' => True) (trivial)
  (first | (go_at_call 4; refine (HL.out _ (Kd.C_drew HC.out)).mono ?_; rintro e w1 ⟨g2, rfl, hle, hg2, hb⟩; have HG1 := Aside0.mk ((hb.block g (blk_lt HG.out)).trans HG.out); have HG2 := Aside0.mk hg2; have HB := Aside0.mk hb; clear hle hg2 hb) | (go_at_call 23; refine (HS.out _ _ HG1.out HG2.out).mono ?_; rintro e w2 ⟨rfl, hd⟩; have HD := Aside0.mk hd; clear hd))
 go_wp2
 go_ret
 exact ⟨rfl, below_step (below_step (below_drew1 (Below.refl _ _)) HB.out) HD.out.below⟩
end Go.Proofs.YtaogoabnidbbpaaGreatDoor.PText
