/- More of owned slices: a store. Nothing of the program is named here. -/
import Derived.Test.YtdfidijlconhnaaSlOps
namespace Go.Proofs.Ytdfidijlconhnaa
open Go.RowKit Asn
/-- A field of a struct within a slice's cells, as the machine spells it. -/
theorem add_fld (ad : Addr) (i j : Nat) : (⟨(ad.add i).block, (ad.add i).off + (j + 1), none⟩ : Addr) = ad.add (i + (j + 1)) := by
  unfold Addr.add
  by_cases h : i = 0 <;> simp [h, Nat.add_assoc]
section
variable {P : Program} {E w w' : World} {F : Asn} {A B : Option Addr} {e z n c m d : Nat} {xs ys : List Value}
theorem Sat.slSet {b off i : Nat} {v : Value} (h : Sat E w (sl e z (some ⟨b, off, none⟩) n c xs * F)) (hi : i < n * z) : Sat E (w.setCell ⟨b, off + i, none⟩ v) (sl e z (some ⟨b, off, none⟩) n c (xs.set i v) * F) := by
  have hl := h.slLen
  rcases h.slOpen with ⟨h0, _⟩ | ⟨b', off', cells, hA, hsz, hx, hs⟩
  · cases h0
  · simp only [Option.some.injEq, Addr.mk.injEq, and_true] at hA
    obtain ⟨rfl, rfl⟩ := hA
    refine Sat.slMk (hs.set (off + i) v) (by rw [List.length_set]; exact hl.1) hl.2.1 hl.2.2 (by simpa using hsz) fun j u hu => ?_
    have hcz : n * z ≤ c * z := Nat.mul_le_mul_right z hl.2.1
    by_cases hij : i = j
    · subst hij
      rw [List.getElem?_set_self (by rw [hl.1]; exact hi)] at hu
      rw [Array.getElem?_setIfInBounds_self_of_lt (by omega)]
      exact hu
    · rw [List.getElem?_set_ne hij] at hu
      rw [Array.getElem?_setIfInBounds_ne (by omega)]
      exact hx j u hu
end
end Go.Proofs.Ytdfidijlconhnaa
