/-
  No cell of these rows narrows 'for every input' (looked for: loops, veiled, ifaces, maps, wideKeys, modest, calm, conditions, laid).
  DERIVED. THE GIVEN ROWS OF THIS SEAT. 6 by the template 'for every input the law returns true; each argument reads behind the call as it read before'; 0 by the template 'total and deterministic' (their statements: YtdfidijlconhnaaTotals.lean).
  GIVEN WITH THE SEED: the statements are not yours to turn. If you find one false, say at which input.
  Laid BY PROGRAM, IN A SANDBOX (cutbox-rows.mjs): the forced cells as the released guide's own fill.sh prints them over the translation 09018d8eee0f7742… (all of the seat's roots in one cut). By AI agents, Wed Nov 11 2026. No macro, syntax, notation, axiom, sorry.
-/
import Derived.Test.YtdfidijlconhnaaChecked
import GoSem.Claim
import GoSem.ClaimJoined
import GoSem.ClaimMapViews
import Derived.JoinedTies
import Derived.KernelRfl
namespace Go.Proofs.Ytdfidijlconhnaa
/- THE CELL 'sum', in the pinned program and in every row, IS THE sha256 OF THE DUMP (.gsa) THAT YtdfidijlconhnaaProg.lean LOADS. Nothing in Lean hashes anything: it is a label: what it is worth is what the hold of that sum in a sandbox is worth. -/
noncomputable def Try.pinned : Pinned := { name := "ytdfidijlconhnaa", sum := "09018d8eee0f7742750b600938269ad8567c97d9e6b74f9a9b8c662168148ce9", checked := Try.checked }
namespace Rows
def none {H : Type} : Left H := { results := [], args := [] }

/-- 'nozzlelaw13.SendqAll': WHATEVER THE INPUT: true; the input reads as it did. -/
def sendqAllSpec : ChangeSpec := { name := "sendqAll", fn := fun _ => fun
  | [d1, d2] => { results := [.lit (.bool true)], args := [d1, d2] }
  | _ => none }
def sendqAllRow : OpenClaim := { program := "ytdfidijlconhnaa", sum := "09018d8eee0f7742750b600938269ad8567c97d9e6b74f9a9b8c662168148ce9", func := "nozzle/nozzlelaw13.SendqAll", spec := "sendqAll", unfollowed := true, recurses := true, apart := false }
def SendqAllSaid : Prop := sendqAllRow.holds Try.pinned (OpenSpec.ofChange sendqAllSpec)

/-- ITS FALSE NEIGHBOUR: 'it returns false'. Refute it at one input. -/
def sendqAllWrong : ChangeSpec := { name := "sendqAll", fn := fun _ => fun
  | [d1, d2] => { results := [.lit (.bool false)], args := [d1, d2] }
  | _ => none }
def SendqAllWrongFalsely : Prop := sendqAllRow.holds Try.pinned (OpenSpec.ofChange sendqAllWrong)

/-- 'nozzlelaw13.SendqRuns': WHATEVER THE INPUT: true; the input reads as it did. -/
def sendqRunsSpec : ChangeSpec := { name := "sendqRuns", fn := fun _ => fun
  | [d1, d2] => { results := [.lit (.bool true)], args := [d1, d2] }
  | _ => none }
def sendqRunsRow : OpenClaim := { program := "ytdfidijlconhnaa", sum := "09018d8eee0f7742750b600938269ad8567c97d9e6b74f9a9b8c662168148ce9", func := "nozzle/nozzlelaw13.SendqRuns", spec := "sendqRuns", unfollowed := true, recurses := true, apart := false }
def SendqRunsSaid : Prop := sendqRunsRow.holds Try.pinned (OpenSpec.ofChange sendqRunsSpec)

/-- ITS FALSE NEIGHBOUR: 'it returns false'. Refute it at one input. -/
def sendqRunsWrong : ChangeSpec := { name := "sendqRuns", fn := fun _ => fun
  | [d1, d2] => { results := [.lit (.bool false)], args := [d1, d2] }
  | _ => none }
def SendqRunsWrongFalsely : Prop := sendqRunsRow.holds Try.pinned (OpenSpec.ofChange sendqRunsWrong)

/-- 'nozzlelaw13.SendqNobody': WHATEVER THE INPUT: true; the input reads as it did. -/
def sendqNobodySpec : ChangeSpec := { name := "sendqNobody", fn := fun _ => fun
  | [d] => { results := [.lit (.bool true)], args := [d] }
  | _ => none }
def sendqNobodyRow : OpenClaim := { program := "ytdfidijlconhnaa", sum := "09018d8eee0f7742750b600938269ad8567c97d9e6b74f9a9b8c662168148ce9", func := "nozzle/nozzlelaw13.SendqNobody", spec := "sendqNobody", unfollowed := true, recurses := true, apart := false }
def SendqNobodySaid : Prop := sendqNobodyRow.holds Try.pinned (OpenSpec.ofChange sendqNobodySpec)

/-- ITS FALSE NEIGHBOUR: 'it returns false'. Refute it at one input. -/
def sendqNobodyWrong : ChangeSpec := { name := "sendqNobody", fn := fun _ => fun
  | [d] => { results := [.lit (.bool false)], args := [d] }
  | _ => none }
def SendqNobodyWrongFalsely : Prop := sendqNobodyRow.holds Try.pinned (OpenSpec.ofChange sendqNobodyWrong)

/-- 'nozzlelaw19.ReceiverOrders': WHATEVER THE INPUT: true; the input reads as it did. -/
def receiverOrdersSpec : ChangeSpec := { name := "receiverOrders", fn := fun _ => fun
  | [d1, d2, d3, d4] => { results := [.lit (.bool true)], args := [d1, d2, d3, d4] }
  | _ => none }
def receiverOrdersRow : OpenClaim := { program := "ytdfidijlconhnaa", sum := "09018d8eee0f7742750b600938269ad8567c97d9e6b74f9a9b8c662168148ce9", func := "nozzle/nozzlelaw19.ReceiverOrders", spec := "receiverOrders", unfollowed := true, recurses := true, apart := false }
def ReceiverOrdersSaid : Prop := receiverOrdersRow.holds Try.pinned (OpenSpec.ofChange receiverOrdersSpec)

/-- ITS FALSE NEIGHBOUR: 'it returns false'. Refute it at one input. -/
def receiverOrdersWrong : ChangeSpec := { name := "receiverOrders", fn := fun _ => fun
  | [d1, d2, d3, d4] => { results := [.lit (.bool false)], args := [d1, d2, d3, d4] }
  | _ => none }
def ReceiverOrdersWrongFalsely : Prop := receiverOrdersRow.holds Try.pinned (OpenSpec.ofChange receiverOrdersWrong)

/-- 'nozzlelaw19.ReceiverRuns': WHATEVER THE INPUT: true; the input reads as it did. -/
def receiverRunsSpec : ChangeSpec := { name := "receiverRuns", fn := fun _ => fun
  | [d1, d2, d3, d4, d5, d6] => { results := [.lit (.bool true)], args := [d1, d2, d3, d4, d5, d6] }
  | _ => none }
def receiverRunsRow : OpenClaim := { program := "ytdfidijlconhnaa", sum := "09018d8eee0f7742750b600938269ad8567c97d9e6b74f9a9b8c662168148ce9", func := "nozzle/nozzlelaw19.ReceiverRuns", spec := "receiverRuns", inPlace := ["maps.clone"], unfollowed := true, recurses := true, apart := false }
def ReceiverRunsSaid : Prop := receiverRunsRow.holds Try.pinned (OpenSpec.ofChange receiverRunsSpec)

/-- ITS FALSE NEIGHBOUR: 'it returns false'. Refute it at one input. -/
def receiverRunsWrong : ChangeSpec := { name := "receiverRuns", fn := fun _ => fun
  | [d1, d2, d3, d4, d5, d6] => { results := [.lit (.bool false)], args := [d1, d2, d3, d4, d5, d6] }
  | _ => none }
def ReceiverRunsWrongFalsely : Prop := receiverRunsRow.holds Try.pinned (OpenSpec.ofChange receiverRunsWrong)

/-- 'nozzlelaw19.ReceiverNobody': WHATEVER THE INPUT: true; the input reads as it did. -/
def receiverNobodySpec : ChangeSpec := { name := "receiverNobody", fn := fun _ => fun
  | [d] => { results := [.lit (.bool true)], args := [d] }
  | _ => none }
def receiverNobodyRow : OpenClaim := { program := "ytdfidijlconhnaa", sum := "09018d8eee0f7742750b600938269ad8567c97d9e6b74f9a9b8c662168148ce9", func := "nozzle/nozzlelaw19.ReceiverNobody", spec := "receiverNobody", inPlace := ["maps.clone"], unfollowed := true, recurses := true, apart := false }
def ReceiverNobodySaid : Prop := receiverNobodyRow.holds Try.pinned (OpenSpec.ofChange receiverNobodySpec)

/-- ITS FALSE NEIGHBOUR: 'it returns false'. Refute it at one input. -/
def receiverNobodyWrong : ChangeSpec := { name := "receiverNobody", fn := fun _ => fun
  | [d] => { results := [.lit (.bool false)], args := [d] }
  | _ => none }
def ReceiverNobodyWrongFalsely : Prop := receiverNobodyRow.holds Try.pinned (OpenSpec.ofChange receiverNobodyWrong)

/- THE SECOND FORM. 'bulk': how many values and letters a reading holds, each counted each time it is reached (what is shared counts as often as it is met; a slice's spare places count too). A statement '..UptoSaid' is the law's where the arguments, and the package variables that the reading takes, are together of bulk at most 1048576: NARROWER than '..Said'. Prove '..Said' where nothing that the law and all that it calls make is longer than what came in: it says more and counts as full. Else prove '..UptoSaid'. A law counts once. -/
mutual
def uptoBulk {H : Type} : DataW H → Nat
  | .lit (.string bytes) => bytes.length + 1
  | .lit _ => 1
  | .nil => 1
  | .ptr d => uptoBulk d + 1
  | .slice elems spare => uptoBulkAll elems + uptoBulkAll spare + 1
  | .agg parts => uptoBulkAll parts + 1
  | .iface _ d => uptoBulk d + 1
  | .map entries => uptoBulkEntries entries + 1
  | .held _ => 1
def uptoBulkAll {H : Type} : List (DataW H) → Nat
  | [] => 0
  | d :: r => uptoBulk d + uptoBulkAll r
def uptoBulkEntries {H : Type} : List (Lit × DataW H) → Nat
  | [] => 0
  | x :: r => uptoBulkEntry x + uptoBulkEntries r
def uptoBulkEntry {H : Type} : Lit × DataW H → Nat
  | (.string bytes, d) => bytes.length + uptoBulk d + 1
  | (_, d) => uptoBulk d + 1
 end
def uptoSmall : (H : Type) → List (DataW H) → Bool := fun _ ds => decide (uptoBulkAll ds ≤ 1048576)
def OpenSpec.upto (s : _root_.Go.ChangeSpec) : _root_.Go.OpenSpec := { _root_.Go.OpenSpec.ofChange s with cond := some uptoSmall }

/-- 'nozzlelaw13.SendqAll', WHERE WHAT IT READS IS OF BULK AT MOST 1048576: true; the input reads as it did. -/
def sendqAllUptoRow : OpenClaim := { program := "ytdfidijlconhnaa", sum := "09018d8eee0f7742750b600938269ad8567c97d9e6b74f9a9b8c662168148ce9", func := "nozzle/nozzlelaw13.SendqAll", spec := "sendqAll", unfollowed := true, recurses := true, apart := false, narrowed := true }
def SendqAllUptoSaid : Prop := sendqAllUptoRow.holds Try.pinned (OpenSpec.upto sendqAllSpec)

/-- 'nozzlelaw13.SendqRuns', WHERE WHAT IT READS IS OF BULK AT MOST 1048576: true; the input reads as it did. -/
def sendqRunsUptoRow : OpenClaim := { program := "ytdfidijlconhnaa", sum := "09018d8eee0f7742750b600938269ad8567c97d9e6b74f9a9b8c662168148ce9", func := "nozzle/nozzlelaw13.SendqRuns", spec := "sendqRuns", unfollowed := true, recurses := true, apart := false, narrowed := true }
def SendqRunsUptoSaid : Prop := sendqRunsUptoRow.holds Try.pinned (OpenSpec.upto sendqRunsSpec)

/-- 'nozzlelaw13.SendqNobody', WHERE WHAT IT READS IS OF BULK AT MOST 1048576: true; the input reads as it did. -/
def sendqNobodyUptoRow : OpenClaim := { program := "ytdfidijlconhnaa", sum := "09018d8eee0f7742750b600938269ad8567c97d9e6b74f9a9b8c662168148ce9", func := "nozzle/nozzlelaw13.SendqNobody", spec := "sendqNobody", unfollowed := true, recurses := true, apart := false, narrowed := true }
def SendqNobodyUptoSaid : Prop := sendqNobodyUptoRow.holds Try.pinned (OpenSpec.upto sendqNobodySpec)

/-- 'nozzlelaw19.ReceiverOrders', WHERE WHAT IT READS IS OF BULK AT MOST 1048576: true; the input reads as it did. -/
def receiverOrdersUptoRow : OpenClaim := { program := "ytdfidijlconhnaa", sum := "09018d8eee0f7742750b600938269ad8567c97d9e6b74f9a9b8c662168148ce9", func := "nozzle/nozzlelaw19.ReceiverOrders", spec := "receiverOrders", unfollowed := true, recurses := true, apart := false, narrowed := true }
def ReceiverOrdersUptoSaid : Prop := receiverOrdersUptoRow.holds Try.pinned (OpenSpec.upto receiverOrdersSpec)

/-- 'nozzlelaw19.ReceiverRuns', WHERE WHAT IT READS IS OF BULK AT MOST 1048576: true; the input reads as it did. -/
def receiverRunsUptoRow : OpenClaim := { program := "ytdfidijlconhnaa", sum := "09018d8eee0f7742750b600938269ad8567c97d9e6b74f9a9b8c662168148ce9", func := "nozzle/nozzlelaw19.ReceiverRuns", spec := "receiverRuns", inPlace := ["maps.clone"], unfollowed := true, recurses := true, apart := false, narrowed := true }
def ReceiverRunsUptoSaid : Prop := receiverRunsUptoRow.holds Try.pinned (OpenSpec.upto receiverRunsSpec)

/-- 'nozzlelaw19.ReceiverNobody', WHERE WHAT IT READS IS OF BULK AT MOST 1048576: true; the input reads as it did. -/
def receiverNobodyUptoRow : OpenClaim := { program := "ytdfidijlconhnaa", sum := "09018d8eee0f7742750b600938269ad8567c97d9e6b74f9a9b8c662168148ce9", func := "nozzle/nozzlelaw19.ReceiverNobody", spec := "receiverNobody", inPlace := ["maps.clone"], unfollowed := true, recurses := true, apart := false, narrowed := true }
def ReceiverNobodyUptoSaid : Prop := receiverNobodyUptoRow.holds Try.pinned (OpenSpec.upto receiverNobodySpec)

end Rows
end Go.Proofs.Ytdfidijlconhnaa
