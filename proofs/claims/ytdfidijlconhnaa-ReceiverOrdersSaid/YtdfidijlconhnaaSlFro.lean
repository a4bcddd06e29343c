/- More of owned slices: what a store into one asks. Nothing of the program is named here. -/
import Derived.Test.YtdfidijlconhnaaSlMore
namespace Go.Proofs.Ytdfidijlconhnaa
open Go.RowKit Asn
section
variable {E w : World} {F : Asn} {e z n c b off : Nat} {xs : List Value}
theorem Sat.slFro (h : Sat E w (sl e z (some ⟨b, off, none⟩) n c xs * F)) (j : Nat) : w.frozen? ⟨b, j, none⟩ = false := by
  rcases h.slOpen with ⟨h0, _⟩ | ⟨b', off', cells, hA, hsz, hx, hs⟩
  · cases h0
  · simp only [Option.some.injEq, Addr.mk.injEq, and_true] at hA
    obtain ⟨rfl, rfl⟩ := hA
    exact hs.frozen j
theorem Sat.slIn (h : Sat E w (sl e z (some ⟨b, off, none⟩) n c xs * F)) : b < w.heap.size := by
  rcases h.slOpen with ⟨h0, _⟩ | ⟨b', off', cells, hA, hsz, hx, hs⟩
  · cases h0
  · simp only [Option.some.injEq, Addr.mk.injEq, and_true] at hA
    obtain ⟨rfl, rfl⟩ := hA
    exact Sat.lt (o := .cells _ _ (0, 0)) hs
theorem Sat.slNE (h : Sat E w (sl e z none n c xs * F)) : n = 0 := by
  rcases h.slOpen with ⟨_, h0, _⟩ | ⟨b', off', cells, hA, hsz, hx, hs⟩
  · exact h0
  · cases hA
end
end Go.Proofs.Ytdfidijlconhnaa
