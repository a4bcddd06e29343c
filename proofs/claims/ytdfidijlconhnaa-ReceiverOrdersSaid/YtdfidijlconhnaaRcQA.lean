/- ReceiverOrders, of what is handed over. -/
import Derived.Test.YtdfidijlconhnaaRcQ
import Derived.Test.YtdfidijlconhnaaArg
namespace Go.Proofs.Ytdfidijlconhnaa
open Go.RowKit Asn Go.ChangeShapes Go.WideShapes Go.Deep
theorem pickAt_of {H : Type} {enc : TypeId × Value → H} {W : World} {base : Nat} {spare : Nat → Bool} {held : Bool} {xs : List Value} {k n : Nat} (hl : xs.length = n * 2) (hk : k < n)
    (h : Trods enc Try.prog W base spare held 81 ((xs.drop (k * 2)).take 2)) : PickAt xs k := by
  have hlen : ((xs.drop (k * 2)).take 2).length = 2 := by rw [List.length_take, List.length_drop]; omega
  have hat : ∀ j, j < 2 → ((xs.drop (k * 2)).take 2)[j]? = xs[k * 2 + j]? := fun j hj => by rw [List.getElem?_take, if_pos hj, List.getElem?_drop]
  obtain ⟨_, hf⟩ := h.struct Try.underlying81
  obtain ⟨v0, e0, t0⟩ := Trods.fld1 (by kernel_rfl) (by rw [hlen]; decide) (hf 0 _ rfl)
  obtain ⟨v1, e1, t1⟩ := Trods.fld1 (by kernel_rfl) (by rw [hlen]; decide) (hf 1 _ rfl)
  obtain ⟨d, rfl, hd⟩ := t0.int Try.underlying5
  obtain ⟨b, rfl⟩ := t1.bool Try.underlying4
  rw [hat _ (by decide)] at e0 e1
  have hd2 := wf_u8 hd
  obtain ⟨s, rfl⟩ := Int.eq_ofNat_of_zero_le hd2.1
  exact ⟨s, b, by omega, e0, e1⟩
theorem receiverOrders_of (W : World) (A0 A3 : Option Addr) (n0 c0 n3 c3 : Nat) (a1 a2 : Int) (rs0 : List (Option Addr × Nat × Nat)) (ls0 : List (List UInt8)) (xs : List Value) (hM : ArgM W A0 n0 rs0 ls0) (h1 : (Lit.int .u8 a1).wf = true) (h2 : (Lit.int .u8 a2).wf = true) (hX : RdW W A3 n3 2 xs) (hn3 : n3 ≤ 9223372036854775807) (hP : ∀ k, k < n3 → PickAt xs k) :
    Calls Try.prog 6 #[.slice A0 n0 c0, .int .u8 a1, .int .u8 a2, .slice A3 n3 c3] W fun e w' => e = .returned (.bool true) ∧ Below W.heap.size W w' := by
  have w1 := wf_u8 h1
  have w2 := wf_u8 h2
  obtain ⟨b1, rfl⟩ := Int.eq_ofNat_of_zero_le w1.1
  obtain ⟨b2, rfl⟩ := Int.eq_ofNat_of_zero_le w2.1
  exact receiverOrders_walk W A0 A3 n0 c0 n3 c3 b1 b2 rs0 ls0 xs hM (by omega) (by omega) hX hn3 hP
end Go.Proofs.Ytdfidijlconhnaa
