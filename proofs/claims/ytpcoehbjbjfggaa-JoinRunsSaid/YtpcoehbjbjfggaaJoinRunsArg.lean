/- JoinRuns' calls, read as data. -/
import Derived.Test.YtpcoehbjbjfggaaJoinRuns
import Derived.Test.YtpcoehbjbjfggaaRow
namespace Go.Proofs.Ytpcoehbjbjfggaa
open Go.RowKit Asn Go.ChangeShapes Go.WideShapes Go.Deep

section
variable {H : Type} {enc : TypeId × Value → H} {P : Program} {W : World} {base : Nat} {spare : Nat → Bool} {held : Bool}
/-- A field of one cell. -/
theorem Trods.fld {t : TypeId} {cs : List Value} {off z : Nat} (hz : z = 1) (ho : off < cs.length) (h : Trods enc P W base spare held t ((cs.drop off).take z)) : ∃ v, cs[off]? = some v ∧ Trods enc P W base spare held t [v] := by
  subst hz
  refine ⟨cs[off], List.getElem?_eq_getElem ho, ?_⟩
  rwa [List.drop_eq_getElem_cons ho] at h
end

theorem opAt_of {H : Type} {enc : TypeId × Value → H} {W : World} {base : Nat} {spare : Nat → Bool} {held : Bool} {xs : List Value} {k n : Nat} (hl : xs.length = n * 4) (hk : k < n)
    (h : Trods enc Try.prog W base spare held 71 ((xs.drop (k * 4)).take 4)) : OpAt W xs k := by
  have hlen : ((xs.drop (k * 4)).take 4).length = 4 := by rw [List.length_take, List.length_drop]; omega
  have hat : ∀ j, j < 4 → ((xs.drop (k * 4)).take 4)[j]? = xs[k * 4 + j]? := fun j hj => by rw [List.getElem?_take, if_pos hj, List.getElem?_drop]
  obtain ⟨_, hf⟩ := h.struct Try.underlying71
  obtain ⟨v0, e0, t0⟩ := Trods.fld (by kernel_rfl) (by rw [hlen]; decide) (hf 0 _ rfl)
  obtain ⟨v1, e1, t1⟩ := Trods.fld (by kernel_rfl) (by rw [hlen]; decide) (hf 1 _ rfl)
  obtain ⟨v2, e2, t2⟩ := Trods.fld (by kernel_rfl) (by rw [hlen]; decide) (hf 2 _ rfl)
  obtain ⟨v3, e3, t3⟩ := Trods.fld (by kernel_rfl) (by rw [hlen]; decide) (hf 3 _ rfl)
  obtain ⟨d, rfl, hd⟩ := t0.int Try.underlying5
  obtain ⟨B, bn, bc, l, hv, h1, h2, _, h3⟩ := t1.bytes Try.underlying22 Try.underlying5 (by kernel_rfl)
  obtain ⟨t, rfl, ht⟩ := t2.int Try.underlying5
  obtain ⟨x, rfl⟩ := t3.bool Try.underlying4
  obtain rfl : v1 = .slice B bn bc := by simpa using hv
  have u8 : ∀ y : Int, (Lit.int .u8 y).wf = true → y = ((UInt8.ofNat y.toNat).toNat : Int) := fun y hy => by
    have hw2 : 0 ≤ y ∧ y ≤ 255 := by
      have h1 : IntKind.u8.min = 0 := by decide
      have h2 : IntKind.u8.max = 255 := by decide
      simpa only [Lit.wf, h1, h2, Bool.and_eq_true, decide_eq_true_eq] using hy
    simp
    omega
  rw [hat _ (by decide)] at e0 e1 e2 e3
  refine ⟨UInt8.ofNat d.toNat, B, bn, bc, l, UInt8.ofNat t.toNat, x, ?_, e1, ?_, e3, h1, by unfold maxLen at h2; omega, h3⟩
  · rw [← u8 d hd]; exact e0
  · rw [← u8 t ht]; exact e2
end Go.Proofs.Ytpcoehbjbjfggaa
