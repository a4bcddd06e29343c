/- ReceiverNobody, of what is handed over. -/
import Derived.Test.YtdfidijlconhnaaRcNob
import Derived.Test.YtdfidijlconhnaaRcArg
namespace Go.Proofs.Ytdfidijlconhnaa
open Go.RowKit Asn Go.ChangeShapes Go.WideShapes Go.Deep
theorem receiverNobody_of {H : Type} {enc : TypeId × Value → H} (W : World) {base : Nat} {spare : Nat → Bool} {held : Bool} {cs : Array Value} (h : Trods enc Try.prog W base spare held 79 (Value.agg cs).cells.toList) :
    Calls Try.prog 8 #[.agg cs] W fun e w' => e = .returned (.bool true) ∧ Below W.heap.size W w' := by
  obtain ⟨p, hp⟩ := packet_of h
  rw [hp]
  exact receiverNobody_walk W p
end Go.Proofs.Ytdfidijlconhnaa
