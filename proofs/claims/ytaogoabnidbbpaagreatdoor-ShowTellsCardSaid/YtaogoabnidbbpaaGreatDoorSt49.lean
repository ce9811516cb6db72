/- Texts of this work merged into one file, what the law does not need left out: TextToks. Conditions stand in each law. -/
import Derived.Test.YtaogoabnidbbpaaGreatDoorRows
import Derived.Deep.SlicePairs
import Derived.OpenShut
import Derived.WideShapes
import Derived.Test.YtaogoabnidbbpaaGreatDoorSt7
namespace Go.Proofs.YtaogoabnidbbpaaGreatDoor.PText
open Go.RowKit Go.ChangeShapes Go.WideShapes Go.Proofs.YtaogoabnidbbpaaGreatDoorW.PrintWords Go.Proofs.YtaogoabnidbbpaaGreatDoorW.PrintLast Go.Proofs.YtaogoabnidbbpaaGreatDoorW.PrintMore
set_option linter.unusedVariables false
set_option linter.unusedSimpArgs false
theorem cells_tok : Tryz.prog.cellsOf 41 = 2 := by kernel_rfl
theorem toks_open {H : Type} {enc : TypeId × Value → H} {W : World} {spare : Nat → Bool} {held : Bool} {a : Option Addr} {len cap : Nat} {d : DataW H} {ps : List MemPlace}
  (h : DataW.Trod enc Tryz.prog W 0 spare held 23 (.slice a len cap) d ps) :
  ∃ ts : List S41, ts.length = len ∧ Kd.C k41 W a len ts ∧ len ≤ cap ∧ ∀ t ∈ ts, (Lit.int .u8 t.f0).wf = true ∧ (Lit.int .u8 t.f1).wf = true := by
 obtain ⟨fuel, hf⟩ := h
 rcases Go.Deep.open_slice_pairs Tryz.underlying23 Tryz.underlying41 cells_tok rfl rfl (by kernel_rfl) (by kernel_rfl) hf with ⟨hcs, _⟩ | ⟨x, l, c, m, n, V0, V1, D0, D1, P0, P1, hcs, _, hl, hm, hmm, _, hx⟩
 ·simp [Value.cells] at hcs
  obtain ⟨rfl, rfl, rfl⟩ := hcs
  exact ⟨[], rfl, Kd.C_nil _ _, Nat.le_refl _, fun _ h => by cases h⟩
 ·simp [Value.cells] at hcs
  obtain ⟨rfl, rfl, rfl⟩ := hcs
  have hlm : len ≤ m := by rw [hmm]; split <;> omega
  have each : ∀ i, i < len → ∃ q : S41, W.cell? (x.add (i * 2)) = some (.int .u8 q.f0) ∧ W.cell? (x.add (i * 2 + 1)) = some (.int .u8 q.f1) ∧ (Lit.int .u8 q.f0).wf = true ∧ (Lit.int .u8 q.f1).wf = true := by
   intro i hi
   obtain ⟨h0, h1, h2, h3⟩ := hx i (by omega)
   obtain ⟨z0, e0, _, w0⟩ := DataW.trod_int Tryz.underlying39 h2
   obtain ⟨z1, e1, _, w1⟩ := DataW.trod_int Tryz.underlying5 h3
   simp at e0 e1
   rw [e0] at h0
   rw [e1] at h1
   exact ⟨⟨z0, z1⟩, h0, h1, w0, w1⟩
  haveI : Inhabited S41 := ⟨z41⟩
  obtain ⟨q, hq⟩ := Go.Deep.choose_lt each
  have hlen : ((List.range len).map q).length = len := by simp
  refine ⟨(List.range len).map q, hlen, ⟨hlen, ?_, fun _ => ⟨x, rfl, fun j p hj => ?_⟩⟩, hl, ?_⟩
  ·have : maxLen = 9223372036854775807 := rfl
   omega
  ·obtain ⟨hj1, hj2⟩ := List.getElem?_eq_some_iff.1 hj
   rw [hlen] at hj1
   have hp : p = q j := by rw [← hj2]; simp
   obtain ⟨g0, g1, _, _⟩ := hq j hj1
   refine ⟨[.int .u8 p.f0, .int .u8 p.f1], rfl, k41_mk _ _, fun i u hu => ?_⟩
   match i, hu with
   | 0, hu => obtain rfl := Option.some.inj hu; rw [hp]; exact g0
   | 1, hu => obtain rfl := Option.some.inj hu; rw [hp]; exact g1
  ·intro t ht
   obtain ⟨i, hi, rfl⟩ := List.mem_map.1 ht
   obtain ⟨_, _, w0, w1⟩ := hq i (by simpa using hi)
   exact ⟨w0, w1⟩
end Go.Proofs.YtaogoabnidbbpaaGreatDoor.PText
