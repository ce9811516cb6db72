/- A text is read as a cube by the program just as the document's own reading does, whatever the number and the text. Conditions: none but the row's own (a text that lies in memory). -/
import Derived.Test.YtpnocpfagbfboaaPCubeReadsx2
namespace Go.Proofs.Ytpnocpfagbfboaa.Pure
open Go.RowKit Go.Proofs.Ytpnocpfagbfboaa.PCubeReads Go.Proofs.YtpnocpfagbfboaaW.PrintWords Go.Proofs.YtpnocpfagbfboaaW.PrintLast Go.Proofs.YtpnocpfagbfboaaW.PrintMore

theorem wrap_inc {i : Int} (h0 : 0 ≤ i) (h : i ≤ 1000000) : wrap64 (i + 1) = i + 1 := by unfold wrap64; omega

theorem shl_pow (i : Nat) (h : i < 8) : shl .u8 1 (i : Int) = (2 ^ i : Nat) := by
  have : i = 0 ∨ i = 1 ∨ i = 2 ∨ i = 3 ∨ i = 4 ∨ i = 5 ∨ i = 6 ∨ i = 7 := by omega
  rcases this with rfl | rfl | rfl | rfl | rfl | rfl | rfl | rfl <;> decide +kernel

theorem pow_le (i : Nat) (h : i < 8) : 2 ^ i ≤ 128 := by
  have : i = 0 ∨ i = 1 ∨ i = 2 ∨ i = 3 ∨ i = 4 ∨ i = 5 ∨ i = 6 ∨ i = 7 := by omega
  rcases this with rfl | rfl | rfl | rfl | rfl | rfl | rfl | rfl <;> decide

/-- `say` puts the bit. -/
theorem say_loop (b c v : Int) (p : Nat) (hp : p < 8) (d : Nat) : ∀ i : Nat, i + d = p →
    Ev (fun k => rejoinderref02_say.l0 k p b (2 ^ i : Nat) i c v)
      (if b = 1 then (Go.bits .or .u8 c (shl .u8 1 p), Go.bits .or .u8 v (shl .u8 1 p)) else (Go.bits .or .u8 c (shl .u8 1 p), v)) := by
  induction d with
  | zero =>
    intro i hi
    obtain rfl : i = p := by omega
    refine Ev.of (fun k => (rejoinderref02_say.mono_l k) _ _ _ _ _ _) (k := 1) ?_
    have hs : (((2 ^ i : Nat) : Int) % 256) = shl .u8 1 (i : Int) := by
      rw [shl_pow i hp]
      have := pow_le i hp
      generalize 2 ^ i = m at *
      omega
    simp only [rejoinderref02_say.l0]
    rw [if_neg (by omega), hs]
    split <;> rfl
  | succ d ih =>
    intro i hi
    refine Ev.step (f := fun k => rejoinderref02_say.l0 k p b (2 ^ (i + 1) : Nat) ((i + 1 : Nat) : Int) c v) (fun k => ?_) (ih (i + 1) (by omega))
    simp only [rejoinderref02_say.l0]
    rw [if_pos (by omega)]
    have hw : wrap64 (2 * ((2 ^ i : Nat) : Int)) = ((2 ^ (i + 1) : Nat) : Int) := by
      have := pow_le i (by omega)
      rw [Nat.pow_succ]
      generalize 2 ^ i = m at *
      unfold wrap64; omega
    have hw2 : wrap64 ((i : Int) + 1) = ((i + 1 : Nat) : Int) := by
      rw [wrap_inc (by omega) (by omega)]; omega
    rw [hw, hw2]

theorem say_ev (b c v : Int) (p : Nat) (hp : p < 8) :
    Ev (fun k => rejoinderref02_say.f k c v p b)
      (if b = 1 then (Go.bits .or .u8 c (shl .u8 1 p), Go.bits .or .u8 v (shl .u8 1 p)) else (Go.bits .or .u8 c (shl .u8 1 p), v)) := by
  have h := say_loop b c v p hp p 0 (by omega)
  exact h

/-- The two loops tell the same. -/
theorem loops (s : ByteArray) (n : Nat) (hn : n ≤ 8) (hs : s.size = n) (d : Nat) : ∀ (i : Nat) (c v : Int), i + d = n →
    ∃ r, Ev (fun k => cube_Parse.l0 k s n i c v) r ∧ Ev (fun k => rejoinderref02_Parse.l0 k n s i c v) r := by
  induction d with
  | zero =>
    intro i c v hi
    refine ⟨(c, v, 0), Ev.of (fun k => (cube_Parse.mono_l k) _ _ _ _ _) (k := 1) ?_, Ev.of (fun k => (rejoinderref02_Parse.mono_l k).2 _ _ _ _ _) (k := 1) ?_⟩
    · simp only [cube_Parse.l0]; rw [if_neg (by omega)]
    · simp only [rejoinderref02_Parse.l0]; rw [if_neg (by omega)]
  | succ d ih =>
    intro i c v hi
    have h1 : (i : Int) < n := by omega
    have h2 : (0 : Int) ≤ i := by omega
    have h3 : (i : Int) < (s.size : Int) := by omega
    have hw2 : wrap64 ((i : Int) + 1) = ((i + 1 : Nat) : Int) := by
      rw [wrap_inc (by omega) (by omega)]; omega
    by_cases e1 : bt s i = 45
    · obtain ⟨r, hr, hq⟩ := ih (i + 1) c v (by omega)
      refine ⟨r, Ev.step (fun k => ?_) hr, Ev.step (fun k => ?_) hq⟩
      · simp only [cube_Parse.l0]; rw [if_pos h1, if_pos h2, if_pos h3, if_pos e1, hw2]
      · simp only [rejoinderref02_Parse.l0]; rw [if_pos h1, if_pos h2, if_pos h3, if_pos e1, hw2]
    · by_cases e2 : bt s i = 48
      · obtain ⟨r, hr, hq⟩ := ih (i + 1) (Go.bits .or .u8 c (shl .u8 1 (i : Int))) v (by omega)
        refine ⟨r, Ev.step (fun k => ?_) hr, ?_⟩
        · simp only [cube_Parse.l0]; rw [if_pos h1, if_pos h2, if_pos h3, if_neg e1, if_pos e2, hw2]
        · refine Ev.step (f := fun k => (rejoinderref02_say.f k c v i 0).bind fun bt108 => (rejoinderref02_Parse.l0 k n s ((i + 1 : Nat) : Int) bt108.1 bt108.2)) (fun k => ?_) ?_
          · simp only [rejoinderref02_Parse.l0]; rw [if_pos h1, if_pos h2, if_pos h3, if_neg e1, if_pos e2, hw2]
          · refine Ev.bind (f := fun k bt108 => rejoinderref02_Parse.l0 k n s ((i + 1 : Nat) : Int) bt108.1 bt108.2) (say_ev 0 c v i (by omega)) ?_
            exact hq
      · by_cases e3 : bt s i = 49
        · obtain ⟨r, hr, hq⟩ := ih (i + 1) (Go.bits .or .u8 c (shl .u8 1 (i : Int))) (Go.bits .or .u8 v (shl .u8 1 (i : Int))) (by omega)
          refine ⟨r, Ev.step (fun k => ?_) hr, ?_⟩
          · simp only [cube_Parse.l0]; rw [if_pos h1, if_pos h2, if_pos h3, if_neg e1, if_neg e2, if_pos e3, hw2]
          · refine Ev.step (f := fun k => (rejoinderref02_say.f k c v i 1).bind fun bt108 => (rejoinderref02_Parse.l0 k n s ((i + 1 : Nat) : Int) bt108.1 bt108.2)) (fun k => ?_) ?_
            · simp only [rejoinderref02_Parse.l0]; rw [if_pos h1, if_pos h2, if_pos h3, if_neg e1, if_neg e2, if_pos e3, hw2]
            · refine Ev.bind (f := fun k bt108 => rejoinderref02_Parse.l0 k n s ((i + 1 : Nat) : Int) bt108.1 bt108.2) (say_ev 1 c v i (by omega)) ?_
              exact hq
        · refine ⟨(0, 0, 120), Ev.of (fun k => (cube_Parse.mono_l k) _ _ _ _ _) (k := 1) ?_, Ev.of (fun k => (rejoinderref02_Parse.mono_l k).2 _ _ _ _ _) (k := 1) ?_⟩
          · simp only [cube_Parse.l0]; rw [if_pos h1, if_pos h2, if_pos h3, if_neg e1, if_neg e2, if_neg e3]
          · simp only [rejoinderref02_Parse.l0]; rw [if_pos h1, if_pos h2, if_pos h3, if_neg e1, if_neg e2, if_neg e3]

theorem both_tell (a : Int) (s : ByteArray) : ∃ r, Ev (fun k => cube_Parse.f k a s) r ∧ Ev (fun k => rejoinderref02_Parse.f k a s) r := by
  by_cases h0 : a < 0
  · refine ⟨(0, 0, 2), Ev.of (fun k => cube_Parse.mono _ _ k) (k := 1) ?_, Ev.of (fun k => rejoinderref02_Parse.mono _ _ k) (k := 1) ?_⟩
    · unfold cube_Parse.f cube_bound.f; rw [if_neg (by omega)]; rfl
    · unfold rejoinderref02_Parse.f; rw [if_pos h0]; simp [rejoinderref02_Parse.j0]
  · by_cases h8 : a > 8
    · refine ⟨(0, 0, 2), Ev.of (fun k => cube_Parse.mono _ _ k) (k := 1) ?_, Ev.of (fun k => rejoinderref02_Parse.mono _ _ k) (k := 1) ?_⟩
      · unfold cube_Parse.f cube_bound.f; rw [if_pos (by omega), decide_eq_false (by omega)]; rfl
      · unfold rejoinderref02_Parse.f; rw [if_neg h0, decide_eq_true h8]; simp [rejoinderref02_Parse.j0]
    · have hb : cube_bound.f a = some true := by unfold cube_bound.f; rw [if_pos (by omega), decide_eq_true (by omega)]
      by_cases hs : (s.size : Int) = a
      · obtain ⟨r, hr, hq⟩ := loops s s.size (by omega) rfl s.size 0 0 0 (by omega)
        rw [hs] at hr hq
        refine ⟨r, Ev.congr (fun k => ?_) hr, Ev.congr (f := fun k => rejoinderref02_Parse.j0 k a s false) (fun k => ?_) (Ev.step (fun k => ?_) hq)⟩
        · unfold cube_Parse.f; rw [hb]; simp only [Option.bind_some, if_true]; rw [if_pos hs]; rfl
        · unfold rejoinderref02_Parse.f; rw [if_neg h0, decide_eq_false h8]
        · simp only [rejoinderref02_Parse.j0]; rw [if_neg (by simp), if_pos hs]; rfl
      · refine ⟨(0, 0, 120), Ev.of (fun k => cube_Parse.mono _ _ k) (k := 1) ?_, Ev.of (fun k => rejoinderref02_Parse.mono _ _ k) (k := 1) ?_⟩
        · unfold cube_Parse.f; rw [hb]; simp only [Option.bind_some, if_true]; rw [if_neg hs]
        · unfold rejoinderref02_Parse.f; rw [if_neg h0, decide_eq_false h8]; simp only [rejoinderref02_Parse.j0]; rw [if_neg (by simp), if_neg hs]

/-- YOURS: ∀ (a0 : Int) (a1 : ByteArray), (Lit.int .i64 a0).wf = true → a1.size ≤ 140737488351232 → ∃ k, rejoinderlaw02_CubeReads.f k a0 a1 = some true -/
theorem CubeReads : rejoinderlaw02_CubeReads.Pure := by
  intro a s _ _
  obtain ⟨r, ⟨K1, h1⟩, ⟨K2, h2⟩⟩ := both_tell a s
  refine ⟨K1 + K2, ?_⟩
  unfold rejoinderlaw02_CubeReads.f
  have g1 := h1 (K1 + K2) (by omega)
  have g2 := h2 (K1 + K2) (by omega)
  simp only at g1 g2
  rw [g1, g2]
  simp

end Go.Proofs.Ytpnocpfagbfboaa.Pure
