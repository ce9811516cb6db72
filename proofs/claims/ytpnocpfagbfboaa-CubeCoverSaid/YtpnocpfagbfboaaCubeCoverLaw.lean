/- The law on Cover holds of every number, every list of letters and every cube: the cubes of some letters have just these, each once, texts come back. Conditions: none but the row's own. -/
import Derived.Test.YtpnocpfagbfboaaRows
import Derived.Test.YtpnocpfagbfboaaCubeCoverA
import Derived.WalkKit
import Derived.ProofKit
import Derived.OpenShut
import Derived.ShutString
import Derived.ChangeOld
import Derived.Below
import Derived.SizedLaws
import Derived.Lib.SmallJoins
import Derived.Test.YtpnocpfagbfboaaWSized
namespace Go.Proofs.Ytpnocpfagbfboaa.cubeCover
open Go.ChangeShapes Go.WideShapes Go.ChangeAt Go.RowKit Go.Joins
open Go.ChangeMaps (open_string shut_string)
set_option linter.unusedVariables false
theorem own : ownKnob Try.prog.godebug = none := by kernel_rfl
theorem laidOut : laidOutB Try.prog = true := by kernel_rfl
def IsRow (k : IntKind) (w : World) (a : Option Addr) (len cap : Nat) (zs : List Int) : Prop :=
  (a = none ∧ len = 0 ∧ cap = 0 ∧ zs = []) ∨
  ∃ x, a = some x ∧ len ≤ cap ∧ cap ≤ maxLen ∧ zs.length = cap ∧ (∀ i, i < zs.length → w.cell? (x.add i) = some (.int k (zs.getD i 0))) ∧ ∀ n ∈ zs, (Lit.int k n).wf = true
theorem cells2 : Try.prog.cellsOf 24 = 2 := by kernel_rfl
open Go.Proofs.YtpnocpfagbfboaaW.PrintWords in
theorem row_reads {k : IntKind} {w : World} {a : Option Addr} {len cap : Nat} {zs : List Int} (h : IsRow k w a len cap zs) (hl : len ≤ 9223372036854775807) :
    Kd.C (Kd.int k) w a len (zs.take len) ∧ (zs.take len).length = len ∧ len ≤ cap ∧ ∀ n ∈ zs.take len, (Lit.int k n).wf = true := by
  rcases h with ⟨rfl, rfl, rfl, rfl⟩ | ⟨x, rfl, hlc, _, hz, hc, hw⟩
  · exact ⟨Kd.C_nil _ _, rfl, Nat.le_refl _, fun n h => by cases h⟩
  · have h2 : (zs.take len).length = len := by rw [List.length_take]; omega
    refine ⟨Kd.C_of_reads (d := (0 : Int)) ⟨h2, hl, fun _ => ⟨x, rfl, fun j hj => ?_⟩⟩, h2, hlc, fun n hn => hw n (List.mem_of_mem_take hn)⟩
    rw [hc j (by omega)]
    simp [List.getD_eq_getElem?_getD, hj]
theorem u8s {xs : List Int} (h : ∀ n ∈ xs, (Lit.int .u8 n).wf = true) : PCube.ic (xs.map Int.toNat) = xs ∧ ∀ x ∈ xs.map Int.toNat, x < 256 := by
  constructor
  · unfold PCube.ic
    rw [List.map_map]
    conv => rhs; rw [← List.map_id xs]
    exact List.map_congr_left fun x hx => by
      have := Go.bounds_u8 (h x hx)
      simp; omega
  · intro x hx
    obtain ⟨y, hy, rfl⟩ := List.mem_map.1 hx
    have := Go.bounds_u8 (h y hy)
    omega
set_option maxRecDepth 100000 in
theorem lifted (os : Os) (started : os.Started) (H : Type) (enc : TypeId × Value → H) :
    ReturnsInHanded {} Try.checked os 7 .any (Rows.cubeCoverSpec.pre6 enc Try.prog Try.f7 Rows.cubeCoverRow.domain false) (Rows.cubeCoverSpec.post enc Try.prog Try.f7 false true false false) := by
  refine returnsInHanded_of_change_sized (C := Try.checked) own started (by kernel_rfl) Try.func7
    (ChangeSpec.witness6 (enc := enc) (C := Try.checked) false ⟨#[], #[.int .i64 0, .slice none 0 0, .agg #[.int .u8 0, .int .u8 0]], []⟩ 8 (by kernel_rfl) (by kernel_rfl) (by kernel_rfl) (by kernel_rfl)) ?_
  intro W base args ds gs before hval0 hW hcnd hsz0 _
  have hsz : (DataW.weightsEach Try.prog (Try.f7.params.toList ++ Rows.cubeCoverSpec.plain.varTypes Try.prog) (ds ++ gs)).all (· ≤ reachBytes) = true := hsz0
  have hval : ∀ (j : Nat) t v, Try.f7.params[j]? = some t → args[j]? = some v → Value.okWide Try.prog W .any base t v := hval0
  have hW' := hW
  obtain ⟨p, q, hA0, hV, rfl, hfz, hnd⟩ := hW
  have hA : DataW.TrodAll enc Try.prog W 0 (fun _ => true) true Try.f7.params.toList args.toList ds p := hA0
  rw [Try.params7] at hA hval hsz
  obtain ⟨v0, vs0, d0, ds0, p0, q0, hargs, rfl, rfl, h0, r0⟩ := trodAll_cons hA
  obtain ⟨v1, vs1, d1, ds1, p1, q1, rfl, rfl, rfl, h1, r1⟩ := trodAll_cons r0
  obtain ⟨v2, vs2, d2, ds2, p2, q2, rfl, rfl, rfl, h2, r2⟩ := trodAll_cons r1
  obtain ⟨rfl, rfl, rfl⟩ := trodAll_nil r2
  obtain rfl : args = #[v0, v1, v2] := by cases args; simp_all
  obtain ⟨rfl, rfl⟩ := trodVars_none hV
  obtain ⟨a0, rfl, rfl, rfl, w0⟩ := open_int Try.underlying3 (hval 0 3 v0 rfl rfl) h0
  obtain ⟨a1, len1, cap1, rfl⟩ := okWide_slice Try.underlying41 (hval 1 41 v1 rfl rfl)
  have k1 := h1
  have lt1 : ∀ x ∈ p1, x.block < W.heap.size := by obtain ⟨m, hm⟩ := k1; exact DataW.trod_lt m _ _ _ hm
  obtain ⟨z1, row1⟩ : ∃ zs, IsRow .u8 W a1 len1 cap1 zs := by
    obtain ⟨fuel, hf⟩ := h1
    rcases open_ints Try.underlying41 Try.underlying22 (by kernel_rfl) hf with ⟨hcs, _⟩ | ⟨x, l, c, zs, hcs, _, hl, hm, hz, _, hcell, hwz⟩
    · simp [Value.cells] at hcs
      obtain ⟨rfl, rfl, rfl⟩ := hcs
      exact ⟨[], .inl ⟨rfl, rfl, rfl, rfl⟩⟩
    · simp [Value.cells] at hcs
      obtain ⟨rfl, rfl, rfl⟩ := hcs
      exact ⟨zs, .inr ⟨x, rfl, hl, hm, hz, hcell, hwz⟩⟩
  obtain ⟨c2_0, c2_1, y2_0, y2_1, m2, rfl, rfl, rfl, hy2_0, hy2_1⟩ := open_agg2 Try.underlying24 (by kernel_rfl) cells2 (hval 2 24 v2 rfl rfl) h2
  obtain ⟨a2_0, e2_0, rfl, w2_0⟩ := DataW.trod_int Try.underlying22 hy2_0
  obtain ⟨a2_1, e2_1, rfl, w2_1⟩ := DataW.trod_int Try.underlying22 hy2_1
  simp at e2_0 e2_1
  subst e2_0 e2_1
  have sr2 : ∀ (W' : World) (sp : Nat → Bool), DataW.Trod enc Try.prog W' 0 sp true 24 (.agg #[.int .u8 a2_0, .int .u8 a2_1]) (.agg [.lit (.int .u8 a2_0), .lit (.int .u8 a2_1)]) [] := fun W' sp => shut_agg2 (y0 := (.lit (.int .u8 a2_0), [])) (y1 := (.lit (.int .u8 a2_1), [])) Try.underlying24 (by kernel_rfl) cells2 ⟨1, by simp [DataW.trod, Try.underlying22, w2_0]⟩ ⟨1, by simp [DataW.trod, Try.underlying22, w2_1]⟩
  clear hA0 hval0 hsz0
  have y1 := Go.Proofs.YtpnocpfagbfboaaW.PrintWords.sized_ints hsz (j := 1) (t := 41) rfl rfl Try.underlying41 Try.underlying22 (by kernel_rfl) (B := 1) (by kernel_rfl) h1
  rw [Nat.mul_one] at y1
  obtain ⟨hr1, hl1, hc1, hw1⟩ := row_reads row1 (by omega)
  obtain ⟨e1, hb1⟩ := u8s hw1
  have hlen : ((z1.take len1).map Int.toNat).length = len1 := by rw [List.length_map]; exact hl1
  obtain ⟨c, rfl, hc⟩ : ∃ c : Nat, a2_0 = c ∧ c < 256 := by have := Go.bounds_u8 w2_0; exact ⟨a2_0.toNat, by omega, by omega⟩
  obtain ⟨v, rfl, hv⟩ : ∃ v : Nat, a2_1 = v ∧ v < 256 := by have := Go.bounds_u8 w2_1; exact ⟨a2_1.toNat, by omega, by omega⟩
  have hlaw := PCube.law_cover a0 w0 a1 cap1 ((z1.take len1).map Int.toNat) hb1 c v hc hv W (by rw [e1, hlen]; exact hr1) (by rw [hlen]; exact hc1) (by rw [hlen]; exact y1)
  rw [hlen] at hlaw
  refine hlaw.mono fun e W' ⟨he, bel⟩ => ?_
  subst he
  exact ⟨_, rfl, _, _, _, [], _, [], hW', trodAll_mk1 (shut_bool Try.underlying4 _), (trodAll_cons_mk (shut_int Try.underlying3 w0) (trodAll_cons_mk (Below.trod laidOut (by kernel_rfl) (of_decide_eq_true (by kernel_rfl)) k1 bel lt1) (trodAll_cons_mk (sr2 _ _) trodAll_mk0))), rfl, bel.frame _, fun h => by cases h⟩
theorem over : Rows.cubeCoverRow.holds Try.pinned (OpenSpec.ofChange Rows.cubeCoverSpec) :=
  OpenClaim.holds_of_wide 7 Try.f7 rfl rfl rfl rfl rfl rfl rfl ⟨rfl, rfl, rfl, rfl, rfl⟩ rfl rfl rfl rfl rfl (by kernel_rfl) Try.func7 (by kernel_rfl)
    (of_decide_eq_true (by kernel_rfl)) (by unfold Func.isWrapper; first | (rw [if_pos (by decide +kernel)]; kernel_rfl) | (rw [if_neg (by decide +kernel)]; exact ⟨rfl, rfl⟩))
    (fun os started H enc _ => lifted os started H enc)
theorem proved : Rows.CubeCoverSaid := over
#print axioms proved
end Go.Proofs.Ytpnocpfagbfboaa.cubeCover
