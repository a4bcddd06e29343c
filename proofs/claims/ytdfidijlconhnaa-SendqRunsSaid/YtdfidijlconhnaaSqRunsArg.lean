/- SqRuns' calls, read as data. -/
import Derived.Test.YtdfidijlconhnaaSqRuns
import Derived.Test.YtdfidijlconhnaaArg
namespace Go.Proofs.Ytdfidijlconhnaa
open Go.RowKit Asn Go.ChangeShapes Go.WideShapes Go.Deep
theorem op13At_of {H : Type} {enc : TypeId × Value → H} {W : World} {base : Nat} {spare : Nat → Bool} {held : Bool} {xs : List Value} {k n : Nat} (hl : xs.length = n * 3) (hk : k < n)
    (h : Trods enc Try.prog W base spare held 45 ((xs.drop (k * 3)).take 3)) : Op13At xs k := by
  have hlen : ((xs.drop (k * 3)).take 3).length = 3 := by rw [List.length_take, List.length_drop]; omega
  have hat : ∀ j, j < 3 → ((xs.drop (k * 3)).take 3)[j]? = xs[k * 3 + j]? := fun j hj => by rw [List.getElem?_take, if_pos hj, List.getElem?_drop]
  obtain ⟨_, hf⟩ := h.struct Try.underlying45
  obtain ⟨v0, e0, t0⟩ := Trods.fld1 (by kernel_rfl) (by rw [hlen]; decide) (hf 0 _ rfl)
  obtain ⟨v1, e1, t1⟩ := Trods.fld1 (by kernel_rfl) (by rw [hlen]; decide) (hf 1 _ rfl)
  obtain ⟨v2, e2, t2⟩ := Trods.fld1 (by kernel_rfl) (by rw [hlen]; decide) (hf 2 _ rfl)
  obtain ⟨d, rfl, hd⟩ := t0.int Try.underlying5
  obtain ⟨m, rfl, hm⟩ := t1.int Try.underlying5
  obtain ⟨x, rfl, hx⟩ := t2.int Try.underlying3
  rw [hat _ (by decide)] at e0 e1 e2
  refine ⟨UInt8.ofNat d.toNat, UInt8.ofNat m.toNat, x, ?_, ?_, e2, (wf_i64 hx).1, (wf_i64 hx).2⟩
  · rw [← u8_of (wf_u8 hd)]; exact e0
  · rw [← u8_of (wf_u8 hm)]; exact e1
end Go.Proofs.Ytdfidijlconhnaa
