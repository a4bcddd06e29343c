/- The program's bitmap: Lacking. -/
import Derived.Test.YtdfidijlconhnaaBitL
namespace Go.Proofs.Ytdfidijlconhnaa
open Go.RowKit Asn
attribute [local go_sem] Oper.semAt_some

/-- Those of a window that are not set. -/
def lk (pre : List (Nat × Bool)) : List Value := (pre.filter (!·.2)).map fun x => Value.int .i64 (x.1 : Nat)
theorem lk_len (pre : List (Nat × Bool)) : (lk pre).length ≤ pre.length := by unfold lk; rw [List.length_map]; exact List.length_filter_le _ _
theorem lk_snoc (pre : List (Nat × Bool)) (x : Nat × Bool) : lk (pre ++ [x]) = lk pre ++ (if x.2 then [] else [Value.int .i64 (x.1 : Nat)]) := by
  unfold lk
  rw [List.filter_append, List.map_append]
  cases h : x.2 <;> simp [h]
theorem lk_pre {pre W : List (Nat × Bool)} (h : pre = W.take pre.length) : lk pre = (lk W).take (lk pre).length := by
  have e : lk W = lk pre ++ lk (W.drop pre.length) := by
    have : W = pre ++ W.drop pre.length := by conv => lhs; rw [← List.take_append_drop pre.length W, ← h]
    unfold lk
    conv => lhs; rw [this]
    rw [List.filter_append, List.map_append]
  rw [e, List.take_left']
  rfl
end Go.Proofs.Ytdfidijlconhnaa
