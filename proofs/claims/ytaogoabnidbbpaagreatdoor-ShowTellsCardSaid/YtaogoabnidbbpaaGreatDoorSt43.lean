/- Texts of this work merged into one file, what the law does not need left out: TextCatch. Conditions stand in each law. -/
import Derived.Defers
import Derived.Recover
import Derived.Test.YtaogoabnidbbpaaGreatDoorSt42
namespace Go.Proofs.YtaogoabnidbbpaaGreatDoor.PText
open Go.RowKit Go.Proofs.YtaogoabnidbbpaaGreatDoorW.PrintWords Go.Proofs.YtaogoabnidbbpaaGreatDoorW.PrintLast Go.Proofs.YtaogoabnidbbpaaGreatDoorW.PrintMore Go.Proofs.YtaogoabnidbbpaaGreatDoorW.Aid
set_option linter.unusedVariables false
set_option linter.unusedSimpArgs false
set_option maxHeartbeats 4000000 in
set_option maxRecDepth 100000 in
theorem catch_idle (p q : Addr) (w : World) :
  CallsD Tryz.prog 46 #[.pointer (some p), .pointer (some q)] .returning w fun e u' w' => e = .returned (.tuple #[]) ∧ u' = .returning ∧ w' = w := by
 refine callsD_of_wpS Tryz.func46 rfl fun c₀ cs hu => ?_
 apply wpS_seq
 apply wpS_region
 simp [wpOpsS, go_sem, recoverD, hu, Tryz.ntmps46, Exit.thenS]
 refine wpS_of_wp ?_
 go_wp2
 cases c₀
 simp_all [bodyPostS, results, Tryz.results46]
set_option maxHeartbeats 4000000 in
set_option maxRecDepth 100000 in
theorem catch_stop (gp gq : Nat) (er at_ : Int) (vp va vb : Value) (w0 w : World) (hp : w.heap[gp]? = some (.cells #[vp] 23 (0, 0))) (hq : w.heap[gq]? = some (.cells #[va, vb] 31 (0, 0))) (hne : gp ≠ gq) (hgp : w0.heap.size ≤ gp) (hgq : w0.heap.size ≤ gq) (hB : Below w0.heap.size w0 w) :
  CallsD Tryz.prog 46 #[.pointer (some ⟨gp, 0, none⟩), .pointer (some ⟨gq, 0, none⟩)] (.panicking [{ v := .iface 93 (.agg #[.int .i64 er, .int .i64 at_]), recovered := false }]) w fun e u' w' =>
   e = .returned (.tuple #[]) ∧ u' = .panicking [{ v := .iface 93 (.agg #[.int .i64 er, .int .i64 at_]), recovered := true }] ∧
   w'.heap[gp]? = some (.cells #[.slice none 0 0] 23 (0, 0)) ∧ w'.heap[gq]? = some (.cells #[.int .i64 er, .int .i64 at_] 31 (0, 0)) ∧ Below w0.heap.size w0 w' := by
 obtain ⟨w2, hw2⟩ : ∃ w2, w2 = w.alloc (.cells #[.int .i64 er, .int .i64 at_] 93 (0, 0)) := ⟨_, rfl⟩
 have hp2 : w2.heap[gp]? = some (.cells #[vp] 23 (0, 0)) := by rw [hw2]; exact blk_alloc hp _
 have hq2 : w2.heap[gq]? = some (.cells #[va, vb] 31 (0, 0)) := by rw [hw2]; exact blk_alloc hq _
 have hx2 : w2.heap[w.heap.size]? = some (.cells #[.int .i64 er, .int .i64 at_] 93 (0, 0)) := by rw [hw2]; exact blk_new _ _
 have hB2 : Below w0.heap.size w0 w2 := by rw [hw2]; exact below_alloc hB _
 obtain ⟨gx, hgx⟩ : ∃ gx, gx = w.heap.size := ⟨_, rfl⟩
 have p0 : w2.cell? ⟨gp, 0, none⟩ = some vp := (blk_cell hp2 0).trans rfl
 have q0 : w2.cell? ⟨gq, 0, none⟩ = some va := (blk_cell hq2 0).trans rfl
 have q1 : w2.cell? ⟨gq, 1, none⟩ = some vb := (blk_cell hq2 1).trans rfl
 have z0 : w2.cell? ⟨gx, 0, none⟩ = some (.int .i64 er) := by rw [hgx]; exact (blk_cell hx2 0).trans rfl
 have z1 : w2.cell? ⟨gx, 1, none⟩ = some (.int .i64 at_) := by rw [hgx]; exact (blk_cell hx2 1).trans rfl
 have fp := blk_frozen hp2 0
 have fq := blk_frozen hq2 0
 have fq1 := blk_frozen hq2 1
 have n1 : gp ≠ gx := by rw [hgx]; exact Nat.ne_of_lt (blk_lt hp)
 have n2 : gq ≠ gx := by rw [hgx]; exact Nat.ne_of_lt (blk_lt hq)
 have HF := Aside0.mk (show _ ∧ _ ∧ _ from ⟨hp2, hq2, hB2⟩)
 clear hp hq hp2 hq2 hx2 hB hB2
 refine callsD_of_wpS Tryz.func46 rfl fun c₀ cs hu => ?_
 apply wpS_seq
 apply wpS_region
 simp [wpOpsS, go_sem, recoverD, hu, Tryz.ntmps46, Exit.thenS]
 refine wpS_of_wp ?_
 have hta : ∀ w : World, (Instr.typeAssert (.iface 93 (.agg #[.int .i64 er, .int .i64 at_])) 20 93 true).run Tryz.prog w = .ok (.tuple #[.agg #[.int .i64 er, .int .i64 at_], .bool true]) w := fun w => by kernel_rfl
 change Code.wp _ _ _ { tmps := #[.pointer (some ⟨gp, 0, none⟩), .pointer (some ⟨gq, 0, none⟩), undef, undef, undef, .iface 93 (.agg #[.int .i64 er, .int .i64 at_]), undef, undef, undef, undef, undef, undef, undef], defers := [] } _
 go_wp2
 rw [← hw2, ← hgx]
 clear hw2 hgx
 go_region
 all_goals
  have h1 := blk_far (p := ⟨gq, 1, none⟩) (blk_far (p := ⟨gq, 0, none⟩) (blk_put HF.out.1 0 (.slice none 0 0) rfl) hne (.int .i64 er)) hne (.int .i64 at_)
  have h2 := blk_put (blk_put (blk_far (p := ⟨gp, 0, none⟩) HF.out.2.1 (Ne.symm hne) (.slice none 0 0)) 0 (.int .i64 er) rfl) 1 (.int .i64 at_) rfl
  have h3 := below_drew1 (below_set (j := 1) (v := .int .i64 at_) (below_set (j := 0) (v := .int .i64 er) (below_set (j := 0) (v := .slice none 0 0) HF.out.2.2 hgp) hgq) hgq)
  exact ⟨rfl, _, rfl, .tuple #[], results_none rfl _ _ _, rfl, rfl, h1, h2, h3⟩
end Go.Proofs.YtaogoabnidbbpaaGreatDoor.PText
