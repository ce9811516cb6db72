/- Texts of this work merged into one file, what the law does not need left out: TextWork2; TextTake. Conditions stand in each law. -/
import Derived.Test.YtaogoabnidbbpaaGreatDoorSt9
import Derived.Test.YtaogoabnidbbpaaGreatDoorSt12
namespace Go.Proofs.YtaogoabnidbbpaaGreatDoor.PText
open Go.RowKit Go.Proofs.YtaogoabnidbbpaaGreatDoorW.PrintWords Go.Proofs.YtaogoabnidbbpaaGreatDoorW.PrintLast Go.Proofs.YtaogoabnidbbpaaGreatDoorW.PrintMore Go.Proofs.YtaogoabnidbbpaaGreatDoorW.Aid
set_option linter.unusedVariables false
set_option linter.unusedSimpArgs false
def wkA (nm : Option Addr) (nn cn : Nat) (vs : Value) (lg : Bool) : Array Value := (Value.slice nm nn cn :: (lookCells ++ [vs, .bool lg])).toArray
/-- The worker in block g of world W: the names lie in w0; its stack and whether a text was too long. -/
def WkAt (w0 : World) (g : Nat) (nm : Option Addr) (nn cn : Nat) (W : World) (st : List S61) (lg : Bool) : Prop :=
 ∃ vs, W.heap[g]? = some (.cells (wkA nm nn cn vs lg) 58 (0, 0)) ∧ w0.heap.size ≤ g ∧ Kd.R k61 61 W w0.heap.size (fun k => k ≠ g) vs st ∧ Below w0.heap.size w0 W
theorem WkAt.drewN {w0 : World} {g : Nat} {nm : Option Addr} {nn cn : Nat} {W : World} {st : List S61} {lg : Bool} (h : WkAt w0 g nm nn cn W st lg) (m : Nat) : WkAt w0 g nm nn cn (W.drewN m) st lg := by
 obtain ⟨vs, hb, hg, hR, hB⟩ := h
 exact ⟨vs, blk_drewN hb m, hg, Kd.R_drewN hR _, pw_below_drewN hB _⟩
theorem WkAt.below {w0 : World} {g : Nat} {nm : Option Addr} {nn cn : Nat} {W W2 : World} {st : List S61} {lg : Bool} (h : WkAt w0 g nm nn cn W st lg) (hb2 : Below W.heap.size W W2) : WkAt w0 g nm nn cn W2 st lg := by
 obtain ⟨vs, hb, hg, hR, hB⟩ := h
 exact ⟨vs, blk_below hb hb2, hg, Kd.R_below hR hb2, below_step hB hb2⟩
/-- What put puts. -/
def putP (st : List S61) (s : ByteArray) (k : Int) : List S61 := st ++ [⟨if s.size > 4096 then ⟨#[]⟩ else s, k⟩]
def putLg (lg : Bool) (s : ByteArray) : Bool := if s.size > 4096 then true else lg
set_option maxHeartbeats 8000000 in
set_option maxRecDepth 100000 in
theorem put_short (w0 : World) (g : Nat) (nm : Option Addr) (nn cn : Nat) (st : List S61) (lg : Bool) (s : ByteArray) (k : Int) (hs : ¬ s.size > 4096) (hlen : st.length ≤ 1000) (W : World) (vs : Value) (h : WkAt w0 g nm nn cn W st lg) (hvs : W.cell? ⟨g, 97, none⟩ = some vs) :
  Calls Tryz.prog 38 #[.pointer (some ⟨g, 0, none⟩), .string s, .int .i64 k] W fun e w' => e = .returned (.tuple #[]) ∧ WkAt w0 g nm nn cn w' (st ++ [⟨s, k⟩]) lg ∧ ∀ j o, W.heap[j]? = some o → j ≠ g → some j ≠ vs.ownBlock → w'.heap[j]? = some o := by
 obtain ⟨vs', hb, hg, hR, hB⟩ := h
 obtain rfl : vs = vs' := by rw [(blk_cell hb 97 : W.cell? ⟨g, 97, none⟩ = _)] at hvs; exact (Option.some.inj hvs).symm
 have HG := Aside0.mk hg
 have HR := Aside0.mk hR
 have HB := Aside0.mk hB
 have HBK := Aside0.mk hb
 have HL := Aside0.mk hlen
 have hglt := Aside0.mk (blk_lt hb)
 have hvo : Aside0 (some g ≠ vs.ownBlock) := ⟨fun e => hR.1 g e.symm rfl⟩
 have d97 : W.cell? ⟨g, 97, none⟩ = some vs := (blk_cell hb 97).trans rfl
 have f97 := blk_frozen hb 97
 have c1 : ((4096 : Int) < (s.size : Int)) = False := eq_false (by omega)
 have c2 : decide ((4096 : Int) < (s.size : Int)) = false := decide_eq_false (by omega)
 obtain ⟨Ao, co, eo⟩ := Kd.R_slice hR
 subst eo
 clear hg hR hB hb hlen hs
 go_enter Tryz.func38, Tryz.ntmps38
 go_wp2_with ((with_reducible refine gate_builtin (b := .append) (xs := #[.tmp 16, .tmp 20]) rfl ?_); at_builtin; refine Kd.R_append k61 (w0 := w0) w0.heap.size rfl (.tmp 16) (.tmp 20) 56 61 (.agg #[(.string ⟨#[]⟩), (.int .i64 0)]) 24 rfl Tryz.underlying56 info117 rfl (by decide) (by omega) (.slice Ao st.length co) st (⟨s, k⟩ : S61) [.string s, .int .i64 k] (fun k => k ≠ g) (fun _ => False) rfl rfl ?aP (fun _ hk => hk.elim) ?aF ?aO ?aB ?aS ?aL ?_; (case aP => exact k61_mkM _ _ _ (⟨s, k⟩ : S61)); (case aB => exact HB.out); (case aF => exact (fun k hk e => absurd hglt.out (by rw [← e]; exact Nat.not_lt.2 hk))); (case aO => exact HR.out); (case aS => exact HB.out.size); (case aL => have := HL.out; omega); intro v1 w1 ho hb hg hat; have HGR := Aside0.mk hg; obtain ⟨A2, c2, e2⟩ := Kd.R_slice ho; subst e2; have HO := Aside0.mk ho; have HB2 := Aside0.mk hb; have HBK2 := Aside0.mk (blk_grown HBK.out hg hvo.out); have f98 := blk_frozen HBK2.out 97; have d98 : w1.cell? ⟨g, 97, none⟩ = some (.slice Ao st.length co) := (blk_cell HBK2.out 97).trans rfl; clear ho hb hg hat HB HR)
 go_end0
 have hl : (st ++ [(⟨s, k⟩ : S61)]).length = st.length + 1 := by rw [List.length_append]; rfl
 have h2 := HO.out
 rw [hl] at h2
 have h3 := Kd.R_far (p := ⟨g, 97, none⟩) h2 (fun _ hk => hk) (.slice A2 (st.length + 1) c2)
 exact ⟨rfl, ⟨.slice A2 (st.length + 1) c2, blk_put HBK2.out 97 _ rfl, HG.out, h3, below_set HB2.out HG.out⟩, fun j o hj hjg hjv => (Below.heap_setCell w1 _ _ j hjg).trans (blk_grown hj HGR.out hjv)⟩
set_option maxHeartbeats 8000000 in
set_option maxRecDepth 100000 in
theorem put_long (w0 : World) (g : Nat) (nm : Option Addr) (nn cn : Nat) (st : List S61) (lg : Bool) (s : ByteArray) (k : Int) (hs : s.size > 4096) (hlen : st.length ≤ 1000) (W : World) (vs : Value) (h : WkAt w0 g nm nn cn W st lg) (hvs : W.cell? ⟨g, 97, none⟩ = some vs) :
  Calls Tryz.prog 38 #[.pointer (some ⟨g, 0, none⟩), .string s, .int .i64 k] W fun e w' => e = .returned (.tuple #[]) ∧ WkAt w0 g nm nn cn w' (st ++ [⟨⟨#[]⟩, k⟩]) true ∧ ∀ j o, W.heap[j]? = some o → j ≠ g → some j ≠ vs.ownBlock → w'.heap[j]? = some o := by
 obtain ⟨vs', hb0, hg, hR0, hB0⟩ := h
 obtain rfl : vs = vs' := by rw [(blk_cell hb0 97 : W.cell? ⟨g, 97, none⟩ = _)] at hvs; exact (Option.some.inj hvs).symm
 have d98 : W.cell? ⟨g, 98, none⟩ = some (.bool lg) := (blk_cell hb0 98).trans rfl
 have f98 := blk_frozen hb0 98
 have d97w : W.cell? ⟨g, 97, none⟩ = some vs := (blk_cell hb0 97).trans rfl
 have f97w := blk_frozen hb0 97
 obtain ⟨W1, hW1⟩ : ∃ W1, W1 = W.setCell ⟨g, 98, none⟩ (.bool true) := ⟨_, rfl⟩
 have hb : W1.heap[g]? = some (.cells (wkA nm nn cn vs true) 58 (0, 0)) := by rw [hW1]; exact blk_put hb0 98 _ rfl
 have hR : Kd.R k61 61 W1 w0.heap.size (fun k => k ≠ g) vs st := by rw [hW1]; exact Kd.R_far hR0 (fun _ hk => hk) _
 have hB : Below w0.heap.size w0 W1 := by rw [hW1]; exact below_set hB0 hg
 clear hb0 hR0 hB0
 have HG := Aside0.mk hg
 have HR := Aside0.mk hR
 have HB := Aside0.mk hB
 have HBK := Aside0.mk hb
 have HL := Aside0.mk hlen
 have hglt := Aside0.mk (blk_lt hb)
 have hvo : Aside0 (some g ≠ vs.ownBlock) := ⟨fun e => hR.1 g e.symm rfl⟩
 have c1 : ((4096 : Int) < (s.size : Int)) = True := eq_true (by omega)
 have c2 : decide ((4096 : Int) < (s.size : Int)) = true := decide_eq_true (by omega)
 obtain ⟨Ao, co, eo⟩ := Kd.R_slice hR
 subst eo
 have HW1 := Aside0.mk hW1
 have hs1 : Aside0 (W.heap.size = W1.heap.size) := ⟨by rw [hW1]; simp⟩
 clear hg hR hB hb hlen hs hW1
 go_enter Tryz.func38, Tryz.ntmps38
 go_wp2_with ((with_reducible refine gate_builtin (b := .append) (xs := #[.tmp 16, .tmp 20]) rfl ?_); at_builtin; refine Aside0.out ?_)
 refine ⟨?_⟩
 rw [← HW1.out, hs1.out]
 refine Kd.R_append k61 (w0 := w0) w0.heap.size rfl (.tmp 16) (.tmp 20) 56 61 (.agg #[(.string ⟨#[]⟩), (.int .i64 0)]) 24 rfl Tryz.underlying56 info117 rfl (by decide) (by omega) (.slice Ao st.length co) st (⟨⟨#[]⟩, k⟩ : S61) [.string ⟨#[]⟩, .int .i64 k] (fun k => k ≠ g) (fun _ => False) rfl rfl ?aP (fun _ hk => hk.elim) ?aF ?aO ?aB ?aS ?aL ?_; (case aP => exact k61_mkM _ _ _ (⟨⟨#[]⟩, k⟩ : S61)); (case aB => exact HB.out); (case aF => exact (fun k hk e => absurd hglt.out (by rw [← e]; exact Nat.not_lt.2 hk))); (case aO => exact HR.out); (case aS => exact HB.out.size); (case aL => have := HL.out; omega); intro v1 w1 ho hb hg hat; have HGR := Aside0.mk hg; obtain ⟨A2, c2, e2⟩ := Kd.R_slice ho; subst e2; have HO := Aside0.mk ho; have HB2 := Aside0.mk hb; have HBK2 := Aside0.mk (blk_grown HBK.out hg hvo.out); have f98 := blk_frozen HBK2.out 97; have d98 : w1.cell? ⟨g, 97, none⟩ = some (.slice Ao st.length co) := (blk_cell HBK2.out 97).trans rfl; clear ho hb hg hat HB HR
 go_wp2
 go_end0
 have hl : (st ++ [(⟨⟨#[]⟩, k⟩ : S61)]).length = st.length + 1 := by rw [List.length_append]; rfl
 have h2 := HO.out
 rw [hl] at h2
 have h3 := Kd.R_far (p := ⟨g, 97, none⟩) h2 (fun _ hk => hk) (.slice A2 (st.length + 1) c2)
 exact ⟨rfl, ⟨.slice A2 (st.length + 1) c2, blk_put HBK2.out 97 _ rfl, HG.out, h3, below_set HB2.out HG.out⟩, fun j o hj hjg hjv => (Below.heap_setCell w1 _ _ j hjg).trans (blk_grown (show W1.heap[j]? = some o by rw [HW1.out]; exact (Below.heap_setCell W _ _ j hjg).trans hj) HGR.out hjv)⟩
theorem put_c (w0 : World) (g : Nat) (nm : Option Addr) (nn cn : Nat) (st : List S61) (lg : Bool) (s : ByteArray) (k : Int) (hlen : st.length ≤ 1000) (W : World) (vs : Value) (h : WkAt w0 g nm nn cn W st lg) (hvs : W.cell? ⟨g, 97, none⟩ = some vs) :
  Calls Tryz.prog 38 #[.pointer (some ⟨g, 0, none⟩), .string s, .int .i64 k] W fun e w' => e = .returned (.tuple #[]) ∧ WkAt w0 g nm nn cn w' (putP st s k) (putLg lg s) ∧ ∀ j o, W.heap[j]? = some o → j ≠ g → some j ≠ vs.ownBlock → w'.heap[j]? = some o := by
 unfold putP putLg
 by_cases hs : s.size > 4096
 ·rw [if_pos hs, if_pos hs]
  exact put_long w0 g nm nn cn st lg s k hs hlen W vs h hvs
 ·rw [if_neg hs, if_neg hs]
  exact put_short w0 g nm nn cn st lg s k hs hlen W vs h hvs
theorem at_last {W : World} {A : Option Addr} {st : List S61} {x : S61} (h : Kd.C k61 W A (st.length + 1) (st ++ [x])) : ∃ ad, A = some ad ∧ W.cell? (ad.add (st.length * 2)) = some (.string x.f0) ∧ W.cell? ⟨(ad.add (st.length * 2)).block, (ad.add (st.length * 2)).off + 1, none⟩ = some (.int .i64 x.f1) := by
 obtain ⟨ad, c, e, _, hK, hc0⟩ := Kd.C_get h (⟨⟨#[]⟩, 0⟩ : S61) (st.length : Int) (by omega) (by omega)
 have hc : ∀ j u, c[j]? = some u → W.cell? (ad.add ((st.length : Int).toNat * 2 + j)) = some u := hc0
 rw [Int.toNat_natCast] at hK hc
 obtain rfl := k61_open hK
 have hx : (st ++ [x]).getD st.length (⟨⟨#[]⟩, 0⟩ : S61) = x := by simp [List.getD]
 rw [hx] at hc
 exact ⟨ad, e, hc 0 _ rfl, by rw [← add_field _ _ 1 (by omega)]; exact hc 1 _ rfl⟩
set_option maxHeartbeats 8000000 in
set_option maxRecDepth 100000 in
theorem take_c (w0 : World) (g : Nat) (nm : Option Addr) (nn cn : Nat) (st : List S61) (x : S61) (lg : Bool) (hlen : st.length ≤ 1000) (W : World) (h : WkAt w0 g nm nn cn W (st ++ [x]) lg) :
  Calls Tryz.prog 28 #[.pointer (some ⟨g, 0, none⟩)] W fun e w' => e = .returned (.agg #[.string x.f0, .int .i64 x.f1]) ∧ WkAt w0 g nm nn cn w' st lg ∧ ∀ j o, W.heap[j]? = some o → j ≠ g → w'.heap[j]? = some o := by
 obtain ⟨vs, hb, hg, hR, hB⟩ := h
 have hl1 : (st ++ [x]).length = st.length + 1 := by simp
 obtain ⟨Ao, co, eo⟩ := Kd.R_slice hR
 subst eo
 rw [hl1] at hb hR
 obtain ⟨hn, hc, hC⟩ := Kd.R_reads' hR
 rw [hl1] at hC
 obtain ⟨ad, ead, e0, e1⟩ := at_last hC
 subst ead
 have HG := Aside0.mk hg
 have HR := Aside0.mk hR
 have HB := Aside0.mk hB
 have HBK := Aside0.mk hb
 have HL := Aside0.mk hlen
 have hlt := blk_lt hb
 have d97 : W.cell? ⟨g, 97, none⟩ = some (.slice (some ad) (st.length + 1) co) := (blk_cell hb 97).trans rfl
 have f97 := blk_frozen hb 97
 have g1 := eq_true (show (0 : Int) ≤ (st.length : Int) by omega)
 have g2 := eq_true (show st.length < st.length + 1 by omega)
 have g3 := eq_true (show (st.length : Int) < ((st.length : Int) + 1) by omega)
 have g4 := eq_true (show st.length + 1 ≤ co by omega)
 have g5 := eq_true (show st.length ≤ co by omega)
 have hel := World.block_lt_of_cell? W _ e0
 have gw : IntKind.i64.wrap (st.length : Int) = (st.length : Int) := IntWalk.i64_in _ ⟨by omega, by omega⟩
 clear hg hR hB hb hlen hC hn hc
 go_enter Tryz.func28, Tryz.ntmps28
 go_wp2_with fail
 go_region
 go_wp2_with fail
 go_region
 all_goals go_wp2_with fail
 have hW : WkAt w0 g nm nn cn (((W.setCell ⟨g, 97, none⟩ (.slice (some ad) st.length co)).alloc (.cells #[.string x.f0, .int .i64 x.f1] 61)).alloc (.cells #[.string x.f0, .int .i64 x.f1] 61)).drew.drew st lg := by
  have h1 := Kd.R_take (m := st.length) HR.out (by omega)
  rw [List.take_left' rfl] at h1
  have h2 := Kd.R_far (p := ⟨g, 97, none⟩) h1 (fun _ hk => hk) (.slice (some ad) st.length co)
  have h3 : WkAt w0 g nm nn cn (W.setCell ⟨g, 97, none⟩ (.slice (some ad) st.length co)) st lg := ⟨_, blk_put HBK.out 97 _ rfl, HG.out, h2, below_set HB.out HG.out⟩
  exact ((h3.below (below_alloc (below_alloc (Below.refl _ _) _) _)).drewN 1).drewN 1
 have hres : (loadVar 61 ⟨W.heap.size, 0, none⟩).run Tryz.prog (((W.setCell ⟨g, 97, none⟩ (.slice (some ad) st.length co)).alloc (.cells #[.string x.f0, .int .i64 x.f1] 61)).alloc (.cells #[.string x.f0, .int .i64 x.f1] 61)).drew.drew = .ok (.agg #[.string x.f0, .int .i64 x.f1]) (((W.setCell ⟨g, 97, none⟩ (.slice (some ad) st.length co)).alloc (.cells #[.string x.f0, .int .i64 x.f1] 61)).alloc (.cells #[.string x.f0, .int .i64 x.f1] 61)).drew.drew := by
  go_simp
 exact ⟨rfl, _, results_cell1 Tryz.results28 rfl hres, rfl, hW, fun j o hj hjg => blk_alloc (blk_alloc ((Below.heap_setCell W ⟨g, 97, none⟩ _ j hjg).trans hj) _) _⟩
/-- A world in which the worker stands, and one behind it. -/
theorem WkAt.lt {w0 : World} {g : Nat} {nm : Option Addr} {nn cn : Nat} {W : World} {st : List S61} {lg : Bool} (h : WkAt w0 g nm nn cn W st lg) : g < W.heap.size := by
 obtain ⟨vs, hb, _⟩ := h
 exact blk_lt hb
theorem take_at (w0 : World) (g : Nat) (nm : Option Addr) (nn cn : Nat) (st : List S61) (x : S61) (lg : Bool) (hlen : st.length ≤ 1000) (W W2 : World) (h : WkAt w0 g nm nn cn W (st ++ [x]) lg) (hb : Below W.heap.size W W2) :
  Calls Tryz.prog 28 #[.pointer (some ⟨g, 0, none⟩)] W2 fun e w' => e = .returned (.agg #[.string x.f0, .int .i64 x.f1]) ∧ WkAt w0 g nm nn cn w' st lg ∧ ∀ j o, W2.heap[j]? = some o → j ≠ g → w'.heap[j]? = some o :=
 take_c w0 g nm nn cn st x lg hlen W2 (h.below hb)
theorem put_at (w0 : World) (g : Nat) (nm : Option Addr) (nn cn : Nat) (st : List S61) (lg : Bool) (s : ByteArray) (k : Int) (hlen : st.length ≤ 1000) (W W2 : World) (h : WkAt w0 g nm nn cn W st lg) (hb : Below W.heap.size W W2) :
  Calls Tryz.prog 38 #[.pointer (some ⟨g, 0, none⟩), .string s, .int .i64 k] W2 fun e w' => e = .returned (.tuple #[]) ∧ WkAt w0 g nm nn cn w' (putP st s k) (putLg lg s) ∧ (∀ j o, W2.heap[j]? = some o → W.heap.size ≤ j → w'.heap[j]? = some o) ∧ ∀ j cs t, W2.heap[j]? = some (.cells cs t (0, 0)) → t ≠ 61 → j ≠ g → w'.heap[j]? = some (.cells cs t (0, 0)) := by
 have hg := h.lt
 have h2 := h.below hb
 obtain ⟨vs, hbk, hg0, hR, hB⟩ := h
 have hbk2 := blk_below hbk hb
 have hR2 := Kd.R_below hR hb
 refine (put_c w0 g nm nn cn st lg s k hlen W2 vs h2 ((blk_cell hbk2 97).trans rfl)).mono ?_
 rintro e w' ⟨h1, h3, h4⟩
 obtain ⟨_, inner, ho, _⟩ := hR
 obtain ⟨_, inner2, ho2, _⟩ := hR2
 exact ⟨h1, h3, fun j o hj hl => h4 j o hj (by omega) (fun e => absurd (own_lt ho j e.symm) (by omega)), fun j cs t hj ht hjg => h4 j _ hj hjg (own_ne ho2 hj (fun e => ht e.symm))⟩
theorem blk_new2 (W : World) (o o' : Obj) : ((W.alloc o).alloc o').heap[W.heap.size + 1]? = some o' := by
 have h := blk_new (W.alloc o) o'
 have e : (W.alloc o).heap.size = W.heap.size + 1 := by simp
 rwa [e] at h
/-- A part, in brackets where it is too weak. -/
def withinP (x : S61) (n : Int) : ByteArray := if x.f1 < n then ((⟨#[40]⟩ : ByteArray) ++ x.f0) ++ ⟨#[41]⟩ else x.f0
theorem withinP_size (x : S61) (n : Int) : (withinP x n).size ≤ x.f0.size + 2 := by
 unfold withinP
 split
 ·simp only [ByteArray.size_append]
  have : (⟨#[40]⟩ : ByteArray).size = 1 := rfl
  have : (⟨#[41]⟩ : ByteArray).size = 1 := rfl
  omega
 ·omega
theorem name_at {W : World} {A : Option Addr} {n : Nat} {names : List ByteArray} (h : Kd.C Kd.string W A n names) (k : Nat) (hk : k < n) : ∃ ad, A = some ad ∧ W.cell? (ad.add k) = some (.string (names.getD k ⟨#[]⟩)) := by
 obtain ⟨ad, c, e, _, hK, hc0⟩ := Kd.C_get h (⟨#[]⟩ : ByteArray) (k : Int) (by omega) (by omega)
 have hc : ∀ j u, c[j]? = some u → W.cell? (ad.add ((k : Int).toNat * 1 + j)) = some u := hc0
 rw [Int.toNat_natCast] at hK hc
 have hK' : c = [.string (names.getD k ⟨#[]⟩)] := hK
 subst hK'
 have h0 := hc 0 _ rfl
 rw [Nat.mul_one, Nat.add_zero] at h0
 exact ⟨ad, e, h0⟩
theorem below_cell {w0 W : World} {p : Addr} {v : Value} (h : w0.cell? p = some v) (hb : Below w0.heap.size w0 W) : W.cell? p = some v := by
 have hlt := World.block_lt_of_cell? w0 _ h
 have e := hb.block _ hlt
 rw [← h]
 unfold World.cell?
 rw [e]
theorem put_prop (w0 : World) (g : Nat) (an : Addr) (names : List ByteArray) (cn : Nat) (st : List S61) (lg : Bool) (s : ByteArray) (k : Int) (hlen : st.length ≤ 1000) (W W2 : World) (h : WkAt w0 g (some an) names.length cn W st lg) (hb : Below W.heap.size W W2) (kk : Nat) (v : Value) (en : w0.cell? (an.add kk) = some v) (cs : Array Value) (u : Value) (hx : W2.heap[W.heap.size]? = some (.cells cs 41 (0, 0))) (h1 : cs[1]? = some u) :
  Calls Tryz.prog 38 #[.pointer (some ⟨g, 0, none⟩), .string s, .int .i64 k] W2 fun e w' => e = .returned (.tuple #[]) ∧ WkAt w0 g (some an) names.length cn w' (putP st s k) (putLg lg s) ∧ w'.cell? ⟨g, 0, none⟩ = some (.slice (some an) names.length cn) ∧ w'.cell? (an.add kk) = some v ∧ w'.cell? ⟨W.heap.size, 1, none⟩ = some u := by
 refine (put_at w0 g (some an) names.length cn st lg s k hlen W W2 h hb).mono ?_
 rintro e w' ⟨h1', h2, h3, h4⟩
 have h2' := h2
 obtain ⟨_, hb', _, _, hB'⟩ := h2'
 exact ⟨h1', h2, (blk_cell hb' 0).trans rfl, below_cell en hB', (blk_cell (h3 _ _ hx (Nat.le_refl _)) 1).trans h1⟩
end Go.Proofs.YtaogoabnidbbpaaGreatDoor.PText
