/- strings.Fields at ASCII texts, in the print's words: its call. Conditions: the table of ASCII blanks holds what its initialiser lays; the text is ASCII and below 4294967281 bytes. -/
import Derived.Test.YtaogoabnidbbpaaDoorPTextx0
import Derived.Test.YtaogoabnidbbpaaDoorShelf
import Derived.Lib.SmallJoins
namespace Go.Proofs.YtaogoabnidbbpaaDoor.PText
open Go.RowKit Go.Proofs.YtaogoabnidbbpaaDoorW.PrintWords Go.Proofs.YtaogoabnidbbpaaDoorW.PrintLast Go.Proofs.YtaogoabnidbbpaaDoorW.PrintMore
set_option linter.unusedVariables false
/-- The table of ASCII blanks is as its initialiser lays it. -/
def Laid (w : World) : Prop := Lib.TabIs Tryd.prog w "strings.asciiSpace" .u8 Lib.asciiSpaceTab
theorem Laid.later {w w' : World} (h : Laid w) (hb : Below w.heap.size w w') : Laid w' := Go.Joins.tab_stays (g := 0) (by kernel_rfl) h hb (Nat.le_refl _)
def bytesB (l : List UInt8) : ByteArray := ⟨l.toArray⟩
def isAscii (s : ByteArray) : Bool := s.data.toList.all fun b => decide (b.toNat < 128)
def strings_Fields.f (s : ByteArray) : Option (List ByteArray) := if s.size < 4294967281 then (if isAscii s = true then some ((Lib.fields s.data.toList).map bytesB) else none) else none
theorem strs_R {e : Nat} (w : World) (xs : List ByteArray) (hm : xs.length ≤ 9223372036854775807) : Kd.R Kd.string e (w.alloc (.cells (xs.map Value.string).toArray e)) w.heap.size (fun _ => True) (.slice (some ⟨w.heap.size, 0, none⟩) xs.length xs.length) xs := by
  have hown := World.ownsRow_lit (base := w.heap.size) (e := e) (size := 1) w (xs.map Value.string).toArray xs.length (Nat.le_refl _) (by simpa [maxLen] using hm) (by simp)
  refine ⟨fun _ _ => trivial, (xs.map Value.string), by have hs : Kd.string.sz = 1 := rfl; rw [hs]; simpa using hown, by simp [Kd.string, Kd.scalar], fun j p hj => ?_⟩
  obtain ⟨hl, rfl⟩ := List.getElem?_eq_some_iff.1 hj
  have hs : Kd.string.sz = 1 := rfl
  rw [hs, Nat.mul_one, List.drop_eq_getElem_cons (by simpa using hl)]
  show _ = _
  simp
theorem fieldsGo_len : ∀ (l cur : List UInt8), (Lib.fieldsGo cur l).length ≤ l.length + 1
  | [], cur => by unfold Lib.fieldsGo; split <;> simp
  | b :: l, cur => by
    unfold Lib.fieldsGo
    have h0 := fieldsGo_len l []
    have h1 := fieldsGo_len l (cur ++ [b])
    split
    · split
      · simp only [List.length_cons]; omega
      · simp only [List.length_cons]; omega
    · simp only [List.length_cons]; omega
theorem fields_len (l : List UInt8) : (Lib.fields l).length ≤ l.length + 1 := fieldsGo_len l []
theorem strings_Fields.calls (s : ByteArray) (r : List ByteArray) (w : World) (h : strings_Fields.f s = some r) (HT : Aside0 (Laid w) := by exact ⟨Laid.later HT.out (by repeat (first | (with_reducible first | exact HB.out | apply below_alloc | apply pw_below_drewN | apply below_drew1) | exact HB.out))⟩) :
    Calls Tryd.prog 61 #[.string s] w fun e w' => ∃ v0_ : Value, e = .returned (v0_) ∧ Kd.R Kd.string 9 w' w.heap.size (fun _ => True) v0_ r ∧ Below w.heap.size w w' := by
  unfold strings_Fields.f at h
  by_cases h1 : s.size < 4294967281
  · rw [if_pos h1] at h
    by_cases h2 : isAscii s = true
    · rw [if_pos h2] at h
      obtain rfl := Option.some.inj h
      have hasc : ∀ (j : Nat) b, s.data.toList[j]? = some b → b.toNat < 128 := by
        intro j b hj
        have := List.all_eq_true.1 h2 b (List.mem_of_getElem? hj)
        exact of_decide_eq_true this
      refine (Tryd.strings_Fields s w h1 hasc HT.out).mono ?_
      rintro e w' ⟨rfl, rfl⟩
      refine ⟨_, rfl, ?_, below_alloc (Below.refl _ _) _⟩
      have hlen : (Lib.fields s.data.toList).length ≤ 9223372036854775807 := by
        have := fields_len s.data.toList
        have h3 : s.data.toList.length = s.size := by rw [Array.length_toList]; rfl
        omega
      have := strs_R (e := 9) w ((Lib.fields s.data.toList).map bytesB) (by rw [List.length_map]; exact hlen)
      rw [List.length_map, List.map_map] at this
      exact this
    · rw [if_neg h2] at h; cases h
  · rw [if_neg h1] at h; cases h
end Go.Proofs.YtaogoabnidbbpaaDoor.PText
