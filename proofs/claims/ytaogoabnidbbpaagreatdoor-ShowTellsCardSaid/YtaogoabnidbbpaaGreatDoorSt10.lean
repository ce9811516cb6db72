/- Texts of this work merged into one file, what the law does not need left out: Shelf. Conditions stand in each law. -/
import Derived.Shelf.Strings.Fields
import Derived.Test.YtaogoabnidbbpaaGreatDoorProg
namespace Go.Proofs
open Go.Shelf
set_option linter.unusedVariables false
set_option linter.unusedSimpArgs false
def Tryz.lays157_ren : Go.Shelf.Ren := ⟨fun | 157 => 76 | 229 => 90 | 199 => 91 | 261 => 96 | 311 => 100 | 312 => 101 | n => n, fun | 9 => 9 | 31 => 22 | 3 => 3 | 5 => 5 | 4 => 4 | 119 => 134 | 0 => 0 | 40 => 126 | 152 => 137 | 21 => 21 | 154 => 139 | 51 => 140 | 141 => 142 | 196 => 146 | 193 => 143 | 198 => 149 | 49 => 147 | 194 => 144 | 201 => 152 | 226 => 155 | 46 => 156 | 227 => 157 | n => n, fun | 0 => 0 | 6 => 1 | n => n⟩
theorem Tryz.lays157 : Go.Proofs.Lays.n157 Tryz.prog Tryz.lays157_ren := {
 mixed := by kernel_rfl
 f157 := Tryz.func76.trans (congrArg some (by kernel_rfl))
 f199 := Tryz.func91.trans (congrArg some (by kernel_rfl))
 f229 := Tryz.func90.trans (congrArg some (by kernel_rfl))
 f261 := Tryz.func96.trans (congrArg some (by kernel_rfl))
 f311 := Tryz.func100.trans (congrArg some (by kernel_rfl))
 f312 := Tryz.func101.trans (congrArg some (by kernel_rfl))
 t0 := Tryz.underlying0
 a0 := Tryz.isAgg0
 z0 := Tryz.sizeOf0
 v0 := Tryz.zeroValue0
 t3 := Tryz.underlying3
 a3 := Tryz.isAgg3
 z3 := Tryz.sizeOf3
 v3 := Tryz.zeroValue3
 t4 := Tryz.underlying4
 a4 := Tryz.isAgg4
 z4 := Tryz.sizeOf4
 v4 := Tryz.zeroValue4
 t5 := Tryz.underlying5
 a5 := Tryz.isAgg5
 z5 := Tryz.sizeOf5
 v5 := Tryz.zeroValue5
 t9 := Tryz.underlying9
 a9 := Tryz.isAgg9
 z9 := Tryz.sizeOf9
 v9 := Tryz.zeroValue9
 t21 := Tryz.underlying21
 a21 := Tryz.isAgg21
 z21 := Tryz.sizeOf21
 v21 := Tryz.zeroValue21
 t31 := Tryz.underlying22
 a31 := Tryz.isAgg22
 z31 := Tryz.sizeOf22
 v31 := Tryz.zeroValue22
 t40 := Tryz.underlying126
 a40 := Tryz.isAgg126
 z40 := Tryz.sizeOf126
 v40 := Tryz.zeroValue126
 t46 := Tryz.underlying156
 a46 := Tryz.isAgg156
 z46 := Tryz.sizeOf156
 v46 := Tryz.zeroValue156
 t49 := Tryz.underlying147
 a49 := Tryz.isAgg147
 z49 := Tryz.sizeOf147
 v49 := Tryz.zeroValue147
 t51 := Tryz.underlying140
 a51 := Tryz.isAgg140
 z51 := Tryz.sizeOf140
 v51 := Tryz.zeroValue140
 t119 := Tryz.underlying134
 a119 := Tryz.isAgg134
 z119 := Tryz.sizeOf134
 t141 := Tryz.underlying142
 a141 := Tryz.isAgg142
 z141 := Tryz.sizeOf142
 v141 := Tryz.zeroValue142
 t152 := Tryz.underlying137
 a152 := Tryz.isAgg137
 z152 := Tryz.sizeOf137
 v152 := Tryz.zeroValue137
 t154 := Tryz.underlying139
 a154 := Tryz.isAgg139
 z154 := Tryz.sizeOf139
 v154 := Tryz.zeroValue139
 t193 := Tryz.underlying143
 a193 := Tryz.isAgg143
 z193 := Tryz.sizeOf143
 v193 := Tryz.zeroValue143
 t194 := Tryz.underlying144
 a194 := Tryz.isAgg144
 z194 := Tryz.sizeOf144
 v194 := Tryz.zeroValue144
 t196 := Tryz.underlying146
 a196 := Tryz.isAgg146
 z196 := Tryz.sizeOf146
 v196 := Tryz.zeroValue146
 t198 := Tryz.underlying149
 a198 := Tryz.isAgg149
 z198 := Tryz.sizeOf149
 v198 := Tryz.zeroValue149
 t201 := Tryz.underlying152
 a201 := Tryz.isAgg152
 z201 := Tryz.sizeOf152
 v201 := Tryz.zeroValue152
 t226 := Tryz.underlying155
 a226 := Tryz.isAgg155
 z226 := Tryz.sizeOf155
 v226 := Tryz.zeroValue155
 t227 := Tryz.underlying157
 a227 := Tryz.isAgg157
 z227 := Tryz.sizeOf157
 v227 := Tryz.zeroValue157
 g0 := by kernel_rfl
 g6 := by kernel_rfl }
open Go.RowKit Go.Lib in
/-- strings.Fields, the table by 'Lib.TabIs' (as strings.TrimSpace's contract). 'hg': the table's number, by its name: at a dump 'by kernel_rfl'. (LAID: no walk: one application.) -/
theorem Tryz.strings_Fields (s : ByteArray) (w : World) (hs : s.size < 4294967281) (hascii : ∀ (j : Nat) b, s.data.toList[j]? = some b → b.toNat < 128) (htab : Lib.TabIs Tryz.prog w "strings.asciiSpace" .u8 Lib.asciiSpaceTab) :
  Calls Tryz.prog 76 #[.string s] w fun e w' =>
   e = .returned (.slice (some ⟨w.heap.size, 0, none⟩) (Lib.fields s.data.toList).length (Lib.fields s.data.toList).length) ∧ w' = w.alloc (.cells ((Lib.fields s.data.toList).map fun l => Value.string ⟨l.toArray⟩).toArray 9) := Any.strings_Fields Tryz.lays157 (by kernel_rfl) (by kernel_rfl) s w hs hascii htab
end Go.Proofs
