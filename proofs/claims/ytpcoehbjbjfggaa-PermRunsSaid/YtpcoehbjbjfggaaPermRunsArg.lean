/- PermRuns' calls, read as data. -/
import Derived.Test.YtpcoehbjbjfggaaPermRuns
import Derived.Test.YtpcoehbjbjfggaaArg
namespace Go.Proofs.Ytpcoehbjbjfggaa
open Go.RowKit Asn Go.ChangeShapes Go.WideShapes Go.Deep
theorem op06At_of {H : Type} {enc : TypeId × Value → H} {W : World} {base : Nat} {spare : Nat → Bool} {held : Bool} {xs : List Value} {k n : Nat} (hl : xs.length = n * 2) (hk : k < n)
    (h : Trods enc Try.prog W base spare held 127 ((xs.drop (k * 2)).take 2)) : Op06At W xs k := by
  have hlen : ((xs.drop (k * 2)).take 2).length = 2 := by rw [List.length_take, List.length_drop]; omega
  have hat : ∀ j, j < 2 → ((xs.drop (k * 2)).take 2)[j]? = xs[k * 2 + j]? := fun j hj => by rw [List.getElem?_take, if_pos hj, List.getElem?_drop]
  obtain ⟨_, hf⟩ := h.struct Try.underlying127
  obtain ⟨v0, e0, t0⟩ := Trods.fld1 (by kernel_rfl) (by rw [hlen]; decide) (hf 0 _ rfl)
  obtain ⟨v1, e1, t1⟩ := Trods.fld1 (by kernel_rfl) (by rw [hlen]; decide) (hf 1 _ rfl)
  obtain ⟨d, rfl, hd⟩ := t0.int Try.underlying5
  obtain ⟨B, bn, bc, l, hv, h1, h2, _, h3, _⟩ := t1.ints Try.underlying52 Try.underlying3 (by kernel_rfl)
  obtain rfl : v1 = .slice B bn bc := by simpa using hv
  rw [hat _ (by decide)] at e0 e1
  refine ⟨UInt8.ofNat d.toNat, B, bn, bc, l, ?_, e1, h1, by unfold maxLen at h2; omega, h3⟩
  rw [← u8_of (wf_u8 hd)]; exact e0
end Go.Proofs.Ytpcoehbjbjfggaa
