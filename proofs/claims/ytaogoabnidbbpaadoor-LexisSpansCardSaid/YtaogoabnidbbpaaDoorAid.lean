/- Small lemmas on rows and blocks for walks by hand: literals that are read, blocks behind one another. Conditions stand in each. -/
import Derived.Test.YtaogoabnidbbpaaDoorWMore
import Derived.Test.YtaogoabnidbbpaaDoorWLast
namespace Go.Proofs.YtaogoabnidbbpaaDoorW.Aid
open Go.RowKit Go.Proofs.YtaogoabnidbbpaaDoorW.PrintWords Go.Proofs.YtaogoabnidbbpaaDoorW.PrintLast
theorem blk_new1 (w : World) (o o' : Obj) : ((w.alloc o).alloc o').heap[w.heap.size + 1]? = some o' := by
  have := blk_new (w.alloc o) o'
  simpa using this
/-- A block that holds a row's cells, read as a slice from its head on. -/
theorem lit_C {α : Type} {d : Kd α} {w : World} {g t n : Nat} {cs : Array Value} {xs : List α} (hr : Reps (d.K w) d.sz xs cs.toList) (hb : w.heap[g]? = some (.cells cs t (0, 0))) (hn : xs.length = n) (hm : n ≤ 9223372036854775807) :
    Kd.C d w (some ⟨g, 0, none⟩) n xs := by
  refine ⟨hn, hm, fun _ => ⟨_, rfl, fun j p hj => ⟨(cs.toList.drop (j * d.sz)).take d.sz, ?_, hr.2 j p hj, fun i u hu => ?_⟩⟩⟩
  · exact d.K_len (hr.2 j p hj)
  · rw [add_plain, blk_cell hb]
    rw [List.getElem?_take] at hu
    split at hu
    · rw [List.getElem?_drop] at hu
      simpa using hu
    · cases hu
/-- A literal of whole numbers. -/
theorem reps_ints {k : IntKind} (w : World) (xs : List Int) : Reps ((Kd.int k).K w) 1 xs (nums k xs) := by
  refine ⟨by simp [nums], fun j p hj => ?_⟩
  obtain ⟨hl, rfl⟩ := List.getElem?_eq_some_iff.1 hj
  show _ = [Value.int k xs[j]]
  have h2 : j < (nums k xs).length := by simpa [nums] using hl
  rw [Nat.mul_one, List.drop_eq_getElem_cons h2]
  simp [nums]
theorem ints_C {k : IntKind} {w : World} {g t n : Nat} {cs : Array Value} {xs : List Int} (hc : cs.toList = nums k xs) (hb : w.heap[g]? = some (.cells cs t (0, 0))) (hn : xs.length = n) (hm : n ≤ 9223372036854775807) :
    Kd.C (Kd.int k) w (some ⟨g, 0, none⟩) n xs := lit_C (d := Kd.int k) (by rw [hc]; exact reps_ints w xs) hb hn hm
theorem reps_nil {α : Type} (R : α → List Value → Prop) (size : Nat) : Reps R size [] [] := Reps.none R size
theorem reps_cons {α : Type} {R : α → List Value → Prop} {size : Nat} {ps : List α} {cs c : List Value} {p : α} (hp : R p c) (hc : c.length = size) (h : Reps R size ps cs) : Reps R size (p :: ps) (c ++ cs) := by
  refine ⟨by rw [List.length_append, h.1, hc, List.length_cons, Nat.succ_mul, Nat.add_comm], fun j q hq => ?_⟩
  cases j with
  | zero =>
    obtain rfl : p = q := by simpa using hq
    rw [Nat.zero_mul, List.drop_zero, List.take_append_of_le_length (by omega), List.take_of_length_le (by omega)]
    exact hp
  | succ j =>
    have h2 := h.2 j q (by simpa using hq)
    rw [Nat.succ_mul, Nat.add_comm, ← hc, List.drop_append, hc]
    rw [List.drop_of_length_le (by omega : c.length ≤ size + j * size), List.nil_append, Nat.add_sub_cancel_left]
    exact h2
end Go.Proofs.YtaogoabnidbbpaaDoorW.Aid
