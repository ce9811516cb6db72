/- Texts of this work merged into one file, what the law does not need left out: TextWorker. Conditions stand in each law. -/
import Derived.Laws.Tables
import Derived.Deep.WholeRow
import Derived.Test.YtaogoabnidbbpaaGreatDoorSt7
import Derived.Test.YtaogoabnidbbpaaGreatDoorSt8
namespace Go.Proofs.YtaogoabnidbbpaaGreatDoor.PText
open Go.RowKit Go.Proofs.YtaogoabnidbbpaaGreatDoorW.PrintWords Go.Proofs.YtaogoabnidbbpaaGreatDoorW.PrintLast Go.Proofs.YtaogoabnidbbpaaGreatDoorW.PrintMore Go.Proofs.YtaogoabnidbbpaaGreatDoorW.Aid
set_option linter.unusedVariables false
set_option linter.unusedSimpArgs false
/-- A part's text, and how strong it is. -/
structure S61 where
 f0 : ByteArray
 f1 : Int
def k61 : Kd S61 := Kd.iso (Kd.pair Kd.string (Kd.int .i64)) (fun x : S61 => (x.f0, x.f1))
theorem k61_open {w : World} {x : S61} {cs : List Value} (h : k61.K w x cs) : cs = [.string x.f0, .int .i64 x.f1] := by
 obtain ⟨_, _, rfl, rfl, rfl⟩ := h
 exact rfl
theorem k61_mkM (w : World) (base : Nat) (ok : Nat → Prop) (x : S61) : k61.M w base ok x [.string x.f0, .int .i64 x.f1] := ⟨[.string x.f0], [.int .i64 x.f1], rfl, rfl, rfl⟩
theorem info117 : (Tryz.prog.info? 61).map (fun i => (i.zero, i.size, i.bytes)) = some (some (.agg #[(.string ⟨#[]⟩), (.int .i64 0)]), 2, 24) := by kernel_rfl
def bs (s : String) : ByteArray := s.toUTF8
/-- The table: of each operator its text, how strong it is, how strong what it is of must be. -/
structure Look where
 text : ByteArray
 strong : Int
 left : Int
 right : Int
def lookL : List Look := [⟨⟨#[116, 114, 117, 101]⟩, 7, 0, 0⟩, ⟨⟨#[102, 97, 108, 115, 101]⟩, 7, 0, 0⟩, ⟨⟨#[]⟩, 0, 0, 0⟩, ⟨⟨#[108, 97, 115, 116]⟩, 7, 0, 0⟩, ⟨⟨#[]⟩, 0, 0, 0⟩, ⟨⟨#[]⟩, 0, 0, 0⟩,
 ⟨⟨#[33]⟩, 6, 6, 0⟩, ⟨⟨#[88, 32]⟩, 6, 6, 0⟩, ⟨⟨#[78, 32]⟩, 6, 6, 0⟩, ⟨⟨#[70, 32]⟩, 6, 6, 0⟩, ⟨⟨#[71, 32]⟩, 6, 6, 0⟩, ⟨⟨#[32, 38, 32]⟩, 4, 4, 5⟩, ⟨⟨#[32, 124, 32]⟩, 3, 3, 4⟩, ⟨⟨#[32, 45, 62, 32]⟩, 2, 3, 2⟩, ⟨⟨#[32, 60, 45, 62, 32]⟩, 1, 1, 2⟩,
 ⟨⟨#[32, 85, 32]⟩, 5, 6, 5⟩, ⟨⟨#[32, 82, 32]⟩, 5, 6, 5⟩, ⟨⟨#[62, 32]⟩, 6, 0, 6⟩, ⟨⟨#[93, 32]⟩, 6, 0, 6⟩, ⟨⟨#[125]⟩, 4, 0, 0⟩, ⟨⟨#[63]⟩, 4, 6, 0⟩, ⟨⟨#[32, 43, 32]⟩, 1, 1, 2⟩, ⟨⟨#[32, 59, 32]⟩, 2, 2, 3⟩, ⟨⟨#[42]⟩, 3, 3, 0⟩]
def lookCells : List Value := lookL.flatMap fun l => [.string l.text, .int .i64 l.strong, .int .i64 l.left, .int .i64 l.right]
/-- A result that lies in a variable of its own. -/
theorem results_cell1 {P : Program} {fn : Func} {tmps : Array Value} {W : World} {a t : Nat} {p : Addr} {v : Value} (hf : fn.results = #[.cell a t]) (ha : tmps.getD a undef = .pointer (some p)) (h : (loadVar t p).run P W = .ok v W) : (results fn tmps).run P W = .ok v W := by
 have ha2 : (tmps[a]?).getD undef = .pointer (some p) := by simpa using ha
 simp [results, hf, ha2, asAddr, h]
set_option maxHeartbeats 8000000 in
set_option maxRecDepth 100000 in
theorem looks_calls (w : World) : Calls Tryz.prog 26 #[] w fun e w' => e = .returned (.agg lookCells.toArray) ∧ Below w.heap.size w w' := by
 go_enter Tryz.func26, Tryz.ntmps26
 go_wp2_with (refine wpList_store_row rfl 54 (.tmp 0) (.tmp 22) rfl w.heap.size lookCells.toArray rfl (by rfl) 54 _ (blk_new w _) (by kernel_rfl) (by kernel_rfl) (by decide +kernel) ?_)
 rw [World.setRow_alloc_new]
 have hres := run_loadVar_new (P := Tryz.prog) w 54 lookCells.toArray 24 53 (by kernel_rfl) (by kernel_rfl)
 exact ⟨rfl, .agg lookCells.toArray, results_cell1 Tryz.results26 rfl hres, rfl, below_alloc (Below.refl _ _) _⟩
end Go.Proofs.YtaogoabnidbbpaaGreatDoor.PText
