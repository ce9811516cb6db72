/- The values of the chapter's examples. -/
import Derived.Test.YtaogoabnidbbpaaDoorPTextx5b
import Derived.Test.YtaogoabnidbbpaaDoorTextJoin
namespace Go.Proofs.YtaogoabnidbbpaaDoor.PText
open Go.RowKit Go.Proofs.YtaogoabnidbbpaaDoorW.PrintWords Go.Proofs.YtaogoabnidbbpaaDoorW.PrintLast Go.Proofs.YtaogoabnidbbpaaDoorW.PrintMore
instance : DecidableEq S31 := fun a b => if h : a.f0 = b.f0 ∧ a.f1 = b.f1 ∧ a.f2 = b.f2 then isTrue (by cases a; cases b; simp at h; simp [h]) else isFalse (by rintro rfl; exact h ⟨rfl, rfl, rfl⟩)
set_option maxRecDepth 100000 in
theorem kw0 : lexis_Words.f 40 (⟨#[88, 40, 112, 49, 38, 33, 113, 41]⟩ : ByteArray) = some (([⟨1, (⟨#[88]⟩ : ByteArray), 0⟩, ⟨0, (⟨#[40]⟩ : ByteArray), 1⟩, ⟨2, (⟨#[112, 49]⟩ : ByteArray), 2⟩, ⟨0, (⟨#[38]⟩ : ByteArray), 4⟩, ⟨0, (⟨#[33]⟩ : ByteArray), 5⟩, ⟨2, (⟨#[113]⟩ : ByteArray), 6⟩, ⟨0, (⟨#[41]⟩ : ByteArray), 7⟩] : List S31), 0, 0) := by decide +kernel
set_option maxRecDepth 100000 in
theorem kw1 : lexis_Words.f 40 (⟨#[112, 60, 45, 62, 113]⟩ : ByteArray) = some (([⟨2, (⟨#[112]⟩ : ByteArray), 0⟩, ⟨0, (⟨#[60, 45, 62]⟩ : ByteArray), 1⟩, ⟨2, (⟨#[113]⟩ : ByteArray), 4⟩] : List S31), 0, 0) := by decide +kernel
set_option maxRecDepth 100000 in
theorem kw2 : lexis_Words.f 40 (⟨#[32]⟩ : ByteArray) = some (([] : List S31), 0, 0) := by decide +kernel
set_option maxRecDepth 100000 in
theorem kw3 : lexis_Words.f 40 (⟨#[116, 114, 117, 101, 50]⟩ : ByteArray) = some (([⟨2, (⟨#[116, 114, 117, 101, 50]⟩ : ByteArray), 0⟩] : List S31), 0, 0) := by decide +kernel
set_option maxRecDepth 100000 in
theorem kb0 : lexis_Words.f 40 (⟨#[112, 60, 45, 113]⟩ : ByteArray) = some (([] : List S31), 140, 2) := by decide +kernel
set_option maxRecDepth 100000 in
theorem kb1 : lexis_Words.f 40 (⟨#[80]⟩ : ByteArray) = some (([] : List S31), 140, 0) := by decide +kernel
set_option maxRecDepth 100000 in
theorem kb2 : lexis_Words.f 40 (⟨#[49, 112]⟩ : ByteArray) = some (([] : List S31), 140, 0) := by decide +kernel
set_option maxRecDepth 100000 in
theorem kb3 : lexis_Words.f 40 (⟨#[88, 49]⟩ : ByteArray) = some (([] : List S31), 140, 0) := by decide +kernel
set_option maxRecDepth 100000 in
theorem kb4 : lexis_Words.f 40 (⟨#[112, 32, 35]⟩ : ByteArray) = some (([] : List S31), 140, 2) := by decide +kernel
set_option maxRecDepth 100000 in
theorem ks0 : lexis_Sort.f 40 (⟨#[45, 62]⟩ : ByteArray) = some (0, true) := by decide +kernel
set_option maxRecDepth 100000 in
theorem ks1 : lexis_Sort.f 40 (⟨#[85]⟩ : ByteArray) = some (1, true) := by decide +kernel
set_option maxRecDepth 100000 in
theorem ks2 : lexis_Sort.f 40 (⟨#[117]⟩ : ByteArray) = some (2, true) := by decide +kernel
set_option maxRecDepth 100000 in
theorem ks3 : lexis_Sort.f 40 (⟨#[116, 114, 117, 101, 88]⟩ : ByteArray) = some (0, false) := by decide +kernel
set_option maxRecDepth 100000 in
theorem ks4 : lexis_Sort.f 40 (⟨#[]⟩ : ByteArray) = some (0, false) := by decide +kernel
set_option maxRecDepth 100000 in
theorem kj : lexis_Join.f ([⟨1, (⟨#[88]⟩ : ByteArray), 0⟩, ⟨0, (⟨#[40]⟩ : ByteArray), 1⟩, ⟨2, (⟨#[112, 49]⟩ : ByteArray), 2⟩, ⟨0, (⟨#[38]⟩ : ByteArray), 4⟩, ⟨0, (⟨#[33]⟩ : ByteArray), 5⟩, ⟨2, (⟨#[113]⟩ : ByteArray), 6⟩, ⟨0, (⟨#[41]⟩ : ByteArray), 7⟩] : List S31) = some (⟨#[88, 32, 40, 32, 112, 49, 32, 38, 32, 33, 32, 113, 32, 41]⟩ : ByteArray) := by decide +kernel
set_option maxRecDepth 100000 in
theorem kp : lexis_Places.f 40 ([⟨1, (⟨#[88]⟩ : ByteArray), 0⟩, ⟨0, (⟨#[40]⟩ : ByteArray), 1⟩, ⟨2, (⟨#[112, 49]⟩ : ByteArray), 2⟩, ⟨0, (⟨#[38]⟩ : ByteArray), 4⟩, ⟨0, (⟨#[33]⟩ : ByteArray), 5⟩, ⟨2, (⟨#[113]⟩ : ByteArray), 6⟩, ⟨0, (⟨#[41]⟩ : ByteArray), 7⟩] : List S31) = some [0, 1, 2, 4, 5, 6, 7] := by decide +kernel
set_option maxRecDepth 100000 in
theorem ki : rejoinderkit_SameInts.f 40 [0, 1, 2, 4, 5, 6, 7] [0, 1, 2, 4, 5, 6, 7] = some true := by decide +kernel
end Go.Proofs.YtaogoabnidbbpaaDoor.PText
