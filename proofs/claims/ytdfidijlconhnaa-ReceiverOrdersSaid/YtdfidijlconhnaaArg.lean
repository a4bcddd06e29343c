/- What a law's arguments read as: fields of one cell, bounds of whole numbers. Nothing of the program is named here. -/
import Derived.Test.YtdfidijlconhnaaRow
namespace Go.Proofs.Ytdfidijlconhnaa
open Go.RowKit Asn Go.ChangeShapes Go.WideShapes Go.Deep
section
variable {H : Type} {enc : TypeId × Value → H} {P : Program} {W : World} {base : Nat} {spare : Nat → Bool} {held : Bool}
/-- A field of one cell. -/
theorem Trods.fld1 {t : TypeId} {cs : List Value} {off z : Nat} (hz : z = 1) (ho : off < cs.length) (h : Trods enc P W base spare held t ((cs.drop off).take z)) : ∃ v, cs[off]? = some v ∧ Trods enc P W base spare held t [v] := by
  subst hz
  refine ⟨cs[off], List.getElem?_eq_getElem ho, ?_⟩
  rwa [List.drop_eq_getElem_cons ho] at h
end
theorem wf_u8 {y : Int} (h : (Lit.int .u8 y).wf = true) : 0 ≤ y ∧ y ≤ 255 := by
  have h1 : IntKind.u8.min = 0 := by decide
  have h2 : IntKind.u8.max = 255 := by decide
  simpa only [Lit.wf, h1, h2, Bool.and_eq_true, decide_eq_true_eq] using h
theorem wf_i8 {y : Int} (h : (Lit.int .i8 y).wf = true) : -128 ≤ y ∧ y ≤ 127 := by
  have h1 : IntKind.i8.min = -128 := by decide
  have h2 : IntKind.i8.max = 127 := by decide
  simpa only [Lit.wf, h1, h2, Bool.and_eq_true, decide_eq_true_eq] using h
theorem wf_u16 {y : Int} (h : (Lit.int .u16 y).wf = true) : 0 ≤ y ∧ y ≤ 65535 := by
  have h1 : IntKind.u16.min = 0 := by decide
  have h2 : IntKind.u16.max = 65535 := by decide
  simpa only [Lit.wf, h1, h2, Bool.and_eq_true, decide_eq_true_eq] using h
theorem wf_i64 {y : Int} (h : (Lit.int .i64 y).wf = true) : -9223372036854775808 ≤ y ∧ y ≤ 9223372036854775807 := by
  have h1 : IntKind.i64.min = -9223372036854775808 := by decide
  have h2 : IntKind.i64.max = 9223372036854775807 := by decide
  simpa only [Lit.wf, h1, h2, Bool.and_eq_true, decide_eq_true_eq] using h
theorem wf_u64 {y : Int} (h : (Lit.int .u64 y).wf = true) : 0 ≤ y ∧ y ≤ 18446744073709551615 := by
  have h1 : IntKind.u64.min = 0 := by decide
  have h2 : IntKind.u64.max = 18446744073709551615 := by decide
  simpa only [Lit.wf, h1, h2, Bool.and_eq_true, decide_eq_true_eq] using h
theorem u8_of {y : Int} (h : 0 ≤ y ∧ y ≤ 255) : y = ((UInt8.ofNat y.toNat).toNat : Int) := by simp; omega
end Go.Proofs.Ytdfidijlconhnaa
