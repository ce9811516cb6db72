/- Texts of this work merged into one file, what the law does not need left out: TextWorker. Conditions stand in each law. -/
import Derived.Below
import Derived.Deep.Draws
import Derived.Deep.AppendLies
import Derived.Maps.AppendAt
import Derived.OwnWalk
import Derived.Laws.BytesArg
import Derived.Laws.MakeOwn
import Derived.Laws.OwnMore
import Derived.Deep.OwnRows
import Derived.Tactics
import Derived.Lib.ConvBytes
import Derived.Laws.Slices
import Derived.WalkKit
import Derived.KernelRfl
import Derived.RowKit3
import Derived.Deep.LoopGhost
import Derived.Deep.QuietTactic
import Derived.BigQuiet
import Derived.WideLaws
import Derived.Deep.DeepCutAuto
import Derived.Deep.CutBlock
import Derived.Deep.RegionHeld3
import Derived.Laws.Rows
import Derived.Lib.AppendStr
import Derived.ArgAppend
import Derived.Laws.IdiomCopy
import Derived.RowKit
import Derived.OrdersHeld
import Derived.Laws.BitsLemmas
import Derived.Laws.StructEq
import Derived.Test.YtaogoabnidbbpaaDoorProg
import Derived.Laws.Tables
import Derived.Deep.WholeRow
import Derived.Test.YtaogoabnidbbpaaDoorSf1
import Derived.Test.YtaogoabnidbbpaaDoorSf2
import Derived.Test.YtaogoabnidbbpaaDoorSf3
import Derived.Test.YtaogoabnidbbpaaDoorSf4
import Derived.Test.YtaogoabnidbbpaaDoorSf5
import Derived.Test.YtaogoabnidbbpaaDoorSf6
import Derived.Test.YtaogoabnidbbpaaDoorSf7
import Derived.Test.YtaogoabnidbbpaaDoorSf12
/-! TextWorker -/
namespace Go.Proofs.YtaogoabnidbbpaaDoor.PText
open Go.RowKit Go.Proofs.YtaogoabnidbbpaaDoorW.PrintWords Go.Proofs.YtaogoabnidbbpaaDoorW.PrintLast Go.Proofs.YtaogoabnidbbpaaDoorW.PrintMore Go.Proofs.YtaogoabnidbbpaaDoorW.Aid
set_option linter.unusedVariables false
/-- A part's text, and how strong it is. -/
structure S117 where
  f0 : ByteArray
  f1 : Int
def k117 : Kd S117 := Kd.iso (Kd.pair Kd.string (Kd.int .i64)) (fun x : S117 => (x.f0, x.f1))
theorem k117_open {w : World} {x : S117} {cs : List Value} (h : k117.K w x cs) : cs = [.string x.f0, .int .i64 x.f1] := by
  obtain ⟨_, _, rfl, rfl, rfl⟩ := h
  exact rfl
theorem k117_mkM (w : World) (base : Nat) (ok : Nat → Prop) (x : S117) : k117.M w base ok x [.string x.f0, .int .i64 x.f1] := ⟨[.string x.f0], [.int .i64 x.f1], rfl, rfl, rfl⟩
theorem info117 : (Tryd.prog.info? 117).map (fun i => (i.zero, i.size, i.bytes)) = some (some (.agg #[(.string ⟨#[]⟩), (.int .i64 0)]), 2, 24) := by kernel_rfl
/-- The table: of each operator its text, how strong it is, how strong what it is of must be. -/
structure Look where
  text : ByteArray
  strong : Int
  left : Int
  right : Int
def lookL : List Look := [⟨⟨#[116, 114, 117, 101]⟩, 7, 0, 0⟩, ⟨⟨#[102, 97, 108, 115, 101]⟩, 7, 0, 0⟩, ⟨⟨#[]⟩, 0, 0, 0⟩, ⟨⟨#[108, 97, 115, 116]⟩, 7, 0, 0⟩, ⟨⟨#[]⟩, 0, 0, 0⟩, ⟨⟨#[]⟩, 0, 0, 0⟩,
  ⟨⟨#[33]⟩, 6, 6, 0⟩, ⟨⟨#[88, 32]⟩, 6, 6, 0⟩, ⟨⟨#[78, 32]⟩, 6, 6, 0⟩, ⟨⟨#[70, 32]⟩, 6, 6, 0⟩, ⟨⟨#[71, 32]⟩, 6, 6, 0⟩, ⟨⟨#[32, 38, 32]⟩, 4, 4, 5⟩, ⟨⟨#[32, 124, 32]⟩, 3, 3, 4⟩, ⟨⟨#[32, 45, 62, 32]⟩, 2, 3, 2⟩, ⟨⟨#[32, 60, 45, 62, 32]⟩, 1, 1, 2⟩,
  ⟨⟨#[32, 85, 32]⟩, 5, 6, 5⟩, ⟨⟨#[32, 82, 32]⟩, 5, 6, 5⟩, ⟨⟨#[62, 32]⟩, 6, 0, 6⟩, ⟨⟨#[93, 32]⟩, 6, 0, 6⟩, ⟨⟨#[125]⟩, 4, 0, 0⟩, ⟨⟨#[63]⟩, 4, 6, 0⟩, ⟨⟨#[32, 43, 32]⟩, 1, 1, 2⟩, ⟨⟨#[32, 59, 32]⟩, 2, 2, 3⟩, ⟨⟨#[42]⟩, 3, 3, 0⟩]
def lookCells : List Value := lookL.flatMap fun l => [.string l.text, .int .i64 l.strong, .int .i64 l.left, .int .i64 l.right]
/-- A result that lies in a variable of its own. -/
theorem results_cell1 {P : Program} {fn : Func} {tmps : Array Value} {W : World} {a t : Nat} {p : Addr} {v : Value} (hf : fn.results = #[.cell a t]) (ha : tmps.getD a undef = .pointer (some p)) (h : (loadVar t p).run P W = .ok v W) : (results fn tmps).run P W = .ok v W := by
  have ha2 : (tmps[a]?).getD undef = .pointer (some p) := by simpa using ha
  simp [results, hf, ha2, asAddr, h]
set_option maxHeartbeats 8000000 in
set_option maxRecDepth 100000 in
theorem looks_calls (w : World) : Calls Tryd.prog 77 #[] w fun e w' => e = .returned (.agg lookCells.toArray) ∧ Below w.heap.size w w' := by
  go_enter Tryd.func77, Tryd.ntmps77
  go_wp2_with (refine wpList_store_row rfl 110 (.tmp 0) (.tmp 22) rfl w.heap.size lookCells.toArray rfl (by rfl) 110 _ (blk_new w _) (by kernel_rfl) (by kernel_rfl) (by decide +kernel) ?_)
  rw [World.setRow_alloc_new]
  have hres := run_loadVar_new (P := Tryd.prog) w 110 lookCells.toArray 24 109 (by kernel_rfl) (by kernel_rfl)
  exact ⟨rfl, .agg lookCells.toArray, results_cell1 Tryd.results77 rfl hres, rfl, below_alloc (Below.refl _ _) _⟩
end Go.Proofs.YtaogoabnidbbpaaDoor.PText
