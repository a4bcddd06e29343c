/- The document's Ack, of whatever number. -/
import Derived.Test.YtdfidijlconhnaaSqS
namespace Go.Proofs.Ytdfidijlconhnaa
open Go.RowKit Asn
theorem ackR13s {E w : World} {X F : Asn} {most : Nat} {la : Option Addr} {ln lc : Nat} {aa : Option Addr} {an ac next : Nat} {ra : Option Addr} {rc : Nat} {ak : List Bool} {seq : Int} {row : List Int} (hs : Sat E w (X * F)) (ha : rd X 1 aa an (bools ak)) (hr : RS X ra row.length rc row) (hn : next ≤ an) (hal : an ≤ 30000) (hrl : row.length ≤ 30000) (hyes : lacksD ak next seq = true) :
    Calls Try.prog 21 #[.agg (q13 most la ln lc aa an ac next ra row.length rc), .int .i64 seq] w (Ack13 E X F most la ln lc an next ak row seq) := by
  have h := hyes
  unfold lacksD at h
  simp only [Bool.and_eq_true, decide_eq_true_eq] at h
  obtain ⟨j, rfl⟩ := Int.eq_ofNat_of_zero_le h.1.1
  exact ackR13 hs ha hr hn hal hrl (by have := h.1.2; omega) hyes
end Go.Proofs.Ytdfidijlconhnaa
