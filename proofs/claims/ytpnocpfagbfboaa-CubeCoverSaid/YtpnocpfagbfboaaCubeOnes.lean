/- bits.OnesCount8 tells how many bits of a byte are set: its call, at every byte. -/
import Derived.Test.YtpnocpfagbfboaaPCubex0
namespace Go.Proofs.Ytpnocpfagbfboaa.PCube
open Go.RowKit Go.Proofs.YtpnocpfagbfboaaW.PrintWords Go.Proofs.YtpnocpfagbfboaaW.PrintLast Go.Proofs.YtpnocpfagbfboaaW.PrintMore
/-- How many of the bits below 8 are set. -/
def ones (n : Nat) : Nat := (n % 2) + (n / 2 % 2) + (n / 4 % 2) + (n / 8 % 2) + (n / 16 % 2) + (n / 32 % 2) + (n / 64 % 2) + (n / 128 % 2)
def bits_OnesCount8.f (a0 : Int) : Option Int := if 0 ≤ a0 ∧ a0 < 256 then some (ones a0.toNat) else none
def onesTab : ByteArray := ⟨#[0, 1, 1, 2, 1, 2, 2, 3, 1, 2, 2, 3, 2, 3, 3, 4, 1, 2, 2, 3, 2, 3, 3, 4, 2, 3, 3, 4, 3, 4, 4, 5, 1, 2, 2, 3, 2, 3, 3, 4, 2, 3, 3, 4, 3, 4, 4, 5, 2, 3, 3, 4, 3, 4, 4, 5, 3, 4, 4, 5, 4, 5, 5, 6, 1, 2, 2, 3, 2, 3, 3, 4, 2, 3, 3, 4, 3, 4, 4, 5, 2, 3, 3, 4, 3, 4, 4, 5, 3, 4, 4, 5, 4, 5, 5, 6, 2, 3, 3, 4, 3, 4, 4, 5, 3, 4, 4, 5, 4, 5, 5, 6, 3, 4, 4, 5, 4, 5, 5, 6, 4, 5, 5, 6, 5, 6, 6, 7, 1, 2, 2, 3, 2, 3, 3, 4, 2, 3, 3, 4, 3, 4, 4, 5, 2, 3, 3, 4, 3, 4, 4, 5, 3, 4, 4, 5, 4, 5, 5, 6, 2, 3, 3, 4, 3, 4, 4, 5, 3, 4, 4, 5, 4, 5, 5, 6, 3, 4, 4, 5, 4, 5, 5, 6, 4, 5, 5, 6, 5, 6, 6, 7, 2, 3, 3, 4, 3, 4, 4, 5, 3, 4, 4, 5, 4, 5, 5, 6, 3, 4, 4, 5, 4, 5, 5, 6, 4, 5, 5, 6, 5, 6, 6, 7, 3, 4, 4, 5, 4, 5, 5, 6, 4, 5, 5, 6, 5, 6, 6, 7, 4, 5, 5, 6, 5, 6, 6, 7, 5, 6, 6, 7, 6, 7, 7, 8]⟩
set_option maxRecDepth 100000 in
theorem onesTab_size : onesTab.size = 256 := by decide +kernel
set_option maxRecDepth 100000 in
theorem onesTab_at : ∀ n : Fin 256, (onesTab.data.getD n.1 0).toNat = ones n.1 := by decide +kernel
theorem onesTab_key (n : Nat) (h : n < 256) (h' : n < onesTab.size) : wrap64 ((onesTab[n]'h').toNat : Int) = (ones n : Int) := by
  have e := onesTab_at ⟨n, h⟩
  have e2 : onesTab.data.getD n 0 = onesTab[n]'h' := by
    have h3 : n < onesTab.data.size := h'
    rw [Array.getD_eq_getD_getElem?, Array.getElem?_eq_getElem h3]; rfl
  simp only at e
  rw [e2] at e
  rw [e]
  have : ones n ≤ 8 := by unfold ones; omega
  unfold wrap64; omega
set_option maxRecDepth 100000 in
set_option maxHeartbeats 2000000 in
theorem bits_OnesCount8.calls (a0 : Int) (r : Int) (w : World) (h : bits_OnesCount8.f a0 = some r) :
    Calls Try.prog 43 #[.int .u8 a0] w fun e w' => e = .returned (.int .i64 r) ∧ Drawn0 w w' := by
  unfold bits_OnesCount8.f at h
  split at h
  case isFalse => cases h
  case isTrue hh =>
    obtain rfl := Option.some.inj h
    obtain ⟨n, rfl⟩ := Int.eq_ofNat_of_zero_le hh.1
    have hn : n < 256 := by omega
    have H0 := Aside0.mk hn
    clear hh h
    go_enter Try.func43, Try.ntmps43
    go_wp2
    go_ret
    refine ⟨?_, Drawn0.refl _⟩
    exact congrArg (fun x => Ending.returned (.int .i64 x)) (onesTab_key n hn (by rw [onesTab_size]; exact hn))
end Go.Proofs.Ytpnocpfagbfboaa.PCube
