/- Texts of this work merged into one file, what the law does not need left out: TextNames. Conditions stand in each law. -/
import Derived.Test.YtaogoabnidbbpaaGreatDoorRows
import Derived.Deep.Strs
import Derived.OpenShut
import Derived.WideShapes
import Derived.Test.YtaogoabnidbbpaaGreatDoorSt7
namespace Go.Proofs.YtaogoabnidbbpaaGreatDoor.PText
open Go.RowKit Go.ChangeShapes Go.WideShapes Go.Proofs.YtaogoabnidbbpaaGreatDoorW.PrintWords Go.Proofs.YtaogoabnidbbpaaGreatDoorW.PrintLast Go.Proofs.YtaogoabnidbbpaaGreatDoorW.PrintMore
set_option linter.unusedVariables false
set_option linter.unusedSimpArgs false
theorem names_open {H : Type} {enc : TypeId × Value → H} {W : World} {spare : Nat → Bool} {held : Bool} {a : Option Addr} {len cap : Nat} {d : DataW H} {ps : List MemPlace}
  (h : DataW.Trod enc Tryz.prog W 0 spare held 22 (.slice a len cap) d ps) :
  ∃ ts : List ByteArray, ts.length = len ∧ Kd.C Kd.string W a len ts ∧ len ≤ cap := by
 obtain ⟨fuel, hf⟩ := h
 rcases Go.Deep.open_strs Tryz.underlying22 Tryz.underlying9 (by kernel_rfl) hf with ⟨hcs, _⟩ | ⟨x, l, c, m, Sx, hcs, _, hl, hm, hmm, _, hx⟩
 ·simp [Value.cells] at hcs
  obtain ⟨rfl, rfl, rfl⟩ := hcs
  exact ⟨[], rfl, Kd.C_nil _ _, Nat.le_refl _⟩
 ·simp [Value.cells] at hcs
  obtain ⟨rfl, rfl, rfl⟩ := hcs
  have hlm : len ≤ m := by rw [hmm]; split <;> omega
  have hlen : ((List.range len).map Sx).length = len := by simp
  refine ⟨(List.range len).map Sx, hlen, ⟨hlen, ?_, fun _ => ⟨x, rfl, fun j p hj => ?_⟩⟩, hl⟩
  ·have : maxLen = 9223372036854775807 := rfl
   omega
  ·obtain ⟨hj1, hj2⟩ := List.getElem?_eq_some_iff.1 hj
   rw [hlen] at hj1
   have hp : p = Sx j := by rw [← hj2]; simp
   refine ⟨[.string p], rfl, rfl, fun i u hu => ?_⟩
   match i, hu with
   | 0, hu =>
    obtain rfl := Option.some.inj hu
    rw [hp, show Kd.string.sz = 1 from rfl, Nat.mul_one]
    exact (hx j (by omega)).1
end Go.Proofs.YtaogoabnidbbpaaGreatDoor.PText
