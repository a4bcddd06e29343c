/- DrawsRuns' calls, read as data. -/
import Derived.Test.YtpcoehbjbjfggaaDrawsRuns
import Derived.Test.YtpcoehbjbjfggaaRow
namespace Go.Proofs.Ytpcoehbjbjfggaa
open Go.RowKit Asn Go.ChangeShapes Go.WideShapes Go.Deep

section
variable {H : Type} {enc : TypeId × Value → H} {P : Program} {W : World} {base : Nat} {spare : Nat → Bool} {held : Bool}
/-- A field of one cell. -/
theorem Trods.fld5 {t : TypeId} {cs : List Value} {off z : Nat} (hz : z = 1) (ho : off < cs.length) (h : Trods enc P W base spare held t ((cs.drop off).take z)) : ∃ v, cs[off]? = some v ∧ Trods enc P W base spare held t [v] := by
  subst hz
  refine ⟨cs[off], List.getElem?_eq_getElem ho, ?_⟩
  rwa [List.drop_eq_getElem_cons ho] at h
end
theorem op05At_of {H : Type} {enc : TypeId × Value → H} {W : World} {base : Nat} {spare : Nat → Bool} {held : Bool} {xs : List Value} {k n : Nat} (hl : xs.length = n * 2) (hk : k < n)
    (h : Trods enc Try.prog W base spare held 45 ((xs.drop (k * 2)).take 2)) : Op05At xs k := by
  have hlen : ((xs.drop (k * 2)).take 2).length = 2 := by rw [List.length_take, List.length_drop]; omega
  have hat : ∀ j, j < 2 → ((xs.drop (k * 2)).take 2)[j]? = xs[k * 2 + j]? := fun j hj => by rw [List.getElem?_take, if_pos hj, List.getElem?_drop]
  obtain ⟨_, hf⟩ := h.struct Try.underlying45
  obtain ⟨v0, e0, t0⟩ := Trods.fld5 (by kernel_rfl) (by rw [hlen]; decide) (hf 0 _ rfl)
  obtain ⟨v1, e1, t1⟩ := Trods.fld5 (by kernel_rfl) (by rw [hlen]; decide) (hf 1 _ rfl)
  obtain ⟨d, rfl, hd⟩ := t0.int Try.underlying5
  obtain ⟨m, rfl, hm⟩ := t1.int Try.underlying3
  have u8 : ∀ y : Int, (Lit.int .u8 y).wf = true → y = ((UInt8.ofNat y.toNat).toNat : Int) := fun y hy => by
    have hw2 : 0 ≤ y ∧ y ≤ 255 := by
      have h1 : IntKind.u8.min = 0 := by decide
      have h2 : IntKind.u8.max = 255 := by decide
      simpa only [Lit.wf, h1, h2, Bool.and_eq_true, decide_eq_true_eq] using hy
    simp
    omega
  have hm2 : -9223372036854775808 ≤ m ∧ m ≤ 9223372036854775807 := by
    have h1 : IntKind.i64.min = -9223372036854775808 := by decide
    have h2 : IntKind.i64.max = 9223372036854775807 := by decide
    simpa only [Lit.wf, h1, h2, Bool.and_eq_true, decide_eq_true_eq] using hm
  rw [hat _ (by decide)] at e0 e1
  refine ⟨UInt8.ofNat d.toNat, m, ?_, e1, hm2.1, hm2.2⟩
  rw [← u8 d hd]; exact e0
end Go.Proofs.Ytpcoehbjbjfggaa
