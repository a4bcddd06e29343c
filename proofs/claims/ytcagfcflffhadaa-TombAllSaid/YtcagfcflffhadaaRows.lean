/-
  No cell of these rows narrows 'for every input' (looked for: loops, veiled, ifaces, maps, wideKeys, modest, calm, conditions, laid).
  DERIVED. THE GIVEN ROWS OF THIS SEAT. 10 by the template 'for every input the law returns true; each argument reads behind the call as it read before'; 0 by the template 'total and deterministic' (their statements: YtcagfcflffhadaaTotals.lean).
  GIVEN WITH THE SEED: the statements are not yours to turn. If you find one false, say at which input.
  Laid BY PROGRAM, IN A SANDBOX (cutbox-rows.mjs): the forced cells as the released guide's own fill.sh prints them over the translation c81a1b5403ff6fc2… (all of the seat's roots in one cut). By AI agents, Wed Nov 11 2026. No macro, syntax, notation, axiom, sorry.
-/
import Derived.Test.YtcagfcflffhadaaChecked
import GoSem.Claim
import GoSem.ClaimJoined
import GoSem.ClaimMapViews
import Derived.JoinedTies
import Derived.KernelRfl
namespace Go.Proofs.Ytcagfcflffhadaa
/- THE CELL 'sum', in the pinned program and in every row, IS THE sha256 OF THE DUMP (.gsa) THAT YtcagfcflffhadaaProg.lean LOADS. Nothing in Lean hashes anything: it is a label: what it is worth is what the hold of that sum in a sandbox is worth. -/
noncomputable def Try.pinned : Pinned := { name := "ytcagfcflffhadaa", sum := "c81a1b5403ff6fc2c6a5ba224bd2eccbf69d2d98da43fe4714fbaff54bd747b1", checked := Try.checked }
namespace Rows
def none {H : Type} : Left H := { results := [], args := [] }

/-- 'nozzlelaw13.SendqAll': WHATEVER THE INPUT: true; the input reads as it did. -/
def sendqAllSpec : ChangeSpec := { name := "sendqAll", fn := fun _ => fun
  | [d1, d2] => { results := [.lit (.bool true)], args := [d1, d2] }
  | _ => none }
def sendqAllRow : OpenClaim := { program := "ytcagfcflffhadaa", sum := "c81a1b5403ff6fc2c6a5ba224bd2eccbf69d2d98da43fe4714fbaff54bd747b1", func := "nozzle/nozzlelaw13.SendqAll", spec := "sendqAll", unfollowed := true, recurses := true, apart := false }
def SendqAllSaid : Prop := sendqAllRow.holds Try.pinned (OpenSpec.ofChange sendqAllSpec)

/-- ITS FALSE NEIGHBOUR: 'it returns false'. Refute it at one input. -/
def sendqAllWrong : ChangeSpec := { name := "sendqAll", fn := fun _ => fun
  | [d1, d2] => { results := [.lit (.bool false)], args := [d1, d2] }
  | _ => none }
def SendqAllWrongFalsely : Prop := sendqAllRow.holds Try.pinned (OpenSpec.ofChange sendqAllWrong)

/-- 'nozzlelaw20.TombEver': WHATEVER THE INPUT: true; the input reads as it did. -/
def tombEverSpec : ChangeSpec := { name := "tombEver", fn := fun _ => fun
  | [d1, d2] => { results := [.lit (.bool true)], args := [d1, d2] }
  | _ => none }
def tombEverRow : OpenClaim := { program := "ytcagfcflffhadaa", sum := "c81a1b5403ff6fc2c6a5ba224bd2eccbf69d2d98da43fe4714fbaff54bd747b1", func := "nozzle/nozzlelaw20.TombEver", spec := "tombEver", unfollowed := true, recurses := true, apart := false }
def TombEverSaid : Prop := tombEverRow.holds Try.pinned (OpenSpec.ofChange tombEverSpec)

/-- ITS FALSE NEIGHBOUR: 'it returns false'. Refute it at one input. -/
def tombEverWrong : ChangeSpec := { name := "tombEver", fn := fun _ => fun
  | [d1, d2] => { results := [.lit (.bool false)], args := [d1, d2] }
  | _ => none }
def TombEverWrongFalsely : Prop := tombEverRow.holds Try.pinned (OpenSpec.ofChange tombEverWrong)

/-- 'nozzlelaw20.TombRuns': WHATEVER THE INPUT: true; the input reads as it did. -/
def tombRunsSpec : ChangeSpec := { name := "tombRuns", fn := fun _ => fun
  | [d1, d2] => { results := [.lit (.bool true)], args := [d1, d2] }
  | _ => none }
def tombRunsRow : OpenClaim := { program := "ytcagfcflffhadaa", sum := "c81a1b5403ff6fc2c6a5ba224bd2eccbf69d2d98da43fe4714fbaff54bd747b1", func := "nozzle/nozzlelaw20.TombRuns", spec := "tombRuns", unfollowed := true, recurses := true, apart := false }
def TombRunsSaid : Prop := tombRunsRow.holds Try.pinned (OpenSpec.ofChange tombRunsSpec)

/-- ITS FALSE NEIGHBOUR: 'it returns false'. Refute it at one input. -/
def tombRunsWrong : ChangeSpec := { name := "tombRuns", fn := fun _ => fun
  | [d1, d2] => { results := [.lit (.bool false)], args := [d1, d2] }
  | _ => none }
def TombRunsWrongFalsely : Prop := tombRunsRow.holds Try.pinned (OpenSpec.ofChange tombRunsWrong)

/-- 'nozzlelaw13.SendqRuns': WHATEVER THE INPUT: true; the input reads as it did. -/
def sendqRunsSpec : ChangeSpec := { name := "sendqRuns", fn := fun _ => fun
  | [d1, d2] => { results := [.lit (.bool true)], args := [d1, d2] }
  | _ => none }
def sendqRunsRow : OpenClaim := { program := "ytcagfcflffhadaa", sum := "c81a1b5403ff6fc2c6a5ba224bd2eccbf69d2d98da43fe4714fbaff54bd747b1", func := "nozzle/nozzlelaw13.SendqRuns", spec := "sendqRuns", unfollowed := true, recurses := true, apart := false }
def SendqRunsSaid : Prop := sendqRunsRow.holds Try.pinned (OpenSpec.ofChange sendqRunsSpec)

/-- ITS FALSE NEIGHBOUR: 'it returns false'. Refute it at one input. -/
def sendqRunsWrong : ChangeSpec := { name := "sendqRuns", fn := fun _ => fun
  | [d1, d2] => { results := [.lit (.bool false)], args := [d1, d2] }
  | _ => none }
def SendqRunsWrongFalsely : Prop := sendqRunsRow.holds Try.pinned (OpenSpec.ofChange sendqRunsWrong)

/-- 'nozzlelaw13.SendqNobody': WHATEVER THE INPUT: true; the input reads as it did. -/
def sendqNobodySpec : ChangeSpec := { name := "sendqNobody", fn := fun _ => fun
  | [d] => { results := [.lit (.bool true)], args := [d] }
  | _ => none }
def sendqNobodyRow : OpenClaim := { program := "ytcagfcflffhadaa", sum := "c81a1b5403ff6fc2c6a5ba224bd2eccbf69d2d98da43fe4714fbaff54bd747b1", func := "nozzle/nozzlelaw13.SendqNobody", spec := "sendqNobody", unfollowed := true, recurses := true, apart := false }
def SendqNobodySaid : Prop := sendqNobodyRow.holds Try.pinned (OpenSpec.ofChange sendqNobodySpec)

/-- ITS FALSE NEIGHBOUR: 'it returns false'. Refute it at one input. -/
def sendqNobodyWrong : ChangeSpec := { name := "sendqNobody", fn := fun _ => fun
  | [d] => { results := [.lit (.bool false)], args := [d] }
  | _ => none }
def SendqNobodyWrongFalsely : Prop := sendqNobodyRow.holds Try.pinned (OpenSpec.ofChange sendqNobodyWrong)

/-- 'nozzlelaw20.TombNobody': WHATEVER THE INPUT: true; the input reads as it did. -/
def tombNobodySpec : ChangeSpec := { name := "tombNobody", fn := fun _ => fun
  | [d] => { results := [.lit (.bool true)], args := [d] }
  | _ => none }
def tombNobodyRow : OpenClaim := { program := "ytcagfcflffhadaa", sum := "c81a1b5403ff6fc2c6a5ba224bd2eccbf69d2d98da43fe4714fbaff54bd747b1", func := "nozzle/nozzlelaw20.TombNobody", spec := "tombNobody", unfollowed := true, recurses := true, apart := false }
def TombNobodySaid : Prop := tombNobodyRow.holds Try.pinned (OpenSpec.ofChange tombNobodySpec)

/-- ITS FALSE NEIGHBOUR: 'it returns false'. Refute it at one input. -/
def tombNobodyWrong : ChangeSpec := { name := "tombNobody", fn := fun _ => fun
  | [d] => { results := [.lit (.bool false)], args := [d] }
  | _ => none }
def TombNobodyWrongFalsely : Prop := tombNobodyRow.holds Try.pinned (OpenSpec.ofChange tombNobodyWrong)

/-- 'nozzlelaw20.TombAll': WHATEVER THE INPUT: true; the input reads as it did. -/
def tombAllSpec : ChangeSpec := { name := "tombAll", fn := fun _ => fun
  | [d1, d2, d3] => { results := [.lit (.bool true)], args := [d1, d2, d3] }
  | _ => none }
def tombAllRow : OpenClaim := { program := "ytcagfcflffhadaa", sum := "c81a1b5403ff6fc2c6a5ba224bd2eccbf69d2d98da43fe4714fbaff54bd747b1", func := "nozzle/nozzlelaw20.TombAll", spec := "tombAll", unfollowed := true, recurses := true, apart := false }
def TombAllSaid : Prop := tombAllRow.holds Try.pinned (OpenSpec.ofChange tombAllSpec)

/-- ITS FALSE NEIGHBOUR: 'it returns false'. Refute it at one input. -/
def tombAllWrong : ChangeSpec := { name := "tombAll", fn := fun _ => fun
  | [d1, d2, d3] => { results := [.lit (.bool false)], args := [d1, d2, d3] }
  | _ => none }
def TombAllWrongFalsely : Prop := tombAllRow.holds Try.pinned (OpenSpec.ofChange tombAllWrong)

/-- 'nozzlelaw19.ReceiverOrders': WHATEVER THE INPUT: true; the input reads as it did. -/
def receiverOrdersSpec : ChangeSpec := { name := "receiverOrders", fn := fun _ => fun
  | [d1, d2, d3, d4] => { results := [.lit (.bool true)], args := [d1, d2, d3, d4] }
  | _ => none }
def receiverOrdersRow : OpenClaim := { program := "ytcagfcflffhadaa", sum := "c81a1b5403ff6fc2c6a5ba224bd2eccbf69d2d98da43fe4714fbaff54bd747b1", func := "nozzle/nozzlelaw19.ReceiverOrders", spec := "receiverOrders", unfollowed := true, recurses := true, apart := false }
def ReceiverOrdersSaid : Prop := receiverOrdersRow.holds Try.pinned (OpenSpec.ofChange receiverOrdersSpec)

/-- ITS FALSE NEIGHBOUR: 'it returns false'. Refute it at one input. -/
def receiverOrdersWrong : ChangeSpec := { name := "receiverOrders", fn := fun _ => fun
  | [d1, d2, d3, d4] => { results := [.lit (.bool false)], args := [d1, d2, d3, d4] }
  | _ => none }
def ReceiverOrdersWrongFalsely : Prop := receiverOrdersRow.holds Try.pinned (OpenSpec.ofChange receiverOrdersWrong)

/-- 'nozzlelaw19.ReceiverRuns': WHATEVER THE INPUT: true; the input reads as it did. -/
def receiverRunsSpec : ChangeSpec := { name := "receiverRuns", fn := fun _ => fun
  | [d1, d2, d3, d4, d5, d6] => { results := [.lit (.bool true)], args := [d1, d2, d3, d4, d5, d6] }
  | _ => none }
def receiverRunsRow : OpenClaim := { program := "ytcagfcflffhadaa", sum := "c81a1b5403ff6fc2c6a5ba224bd2eccbf69d2d98da43fe4714fbaff54bd747b1", func := "nozzle/nozzlelaw19.ReceiverRuns", spec := "receiverRuns", inPlace := ["maps.clone"], unfollowed := true, recurses := true, apart := false }
def ReceiverRunsSaid : Prop := receiverRunsRow.holds Try.pinned (OpenSpec.ofChange receiverRunsSpec)

/-- ITS FALSE NEIGHBOUR: 'it returns false'. Refute it at one input. -/
def receiverRunsWrong : ChangeSpec := { name := "receiverRuns", fn := fun _ => fun
  | [d1, d2, d3, d4, d5, d6] => { results := [.lit (.bool false)], args := [d1, d2, d3, d4, d5, d6] }
  | _ => none }
def ReceiverRunsWrongFalsely : Prop := receiverRunsRow.holds Try.pinned (OpenSpec.ofChange receiverRunsWrong)

/-- 'nozzlelaw19.ReceiverNobody': WHATEVER THE INPUT: true; the input reads as it did. -/
def receiverNobodySpec : ChangeSpec := { name := "receiverNobody", fn := fun _ => fun
  | [d] => { results := [.lit (.bool true)], args := [d] }
  | _ => none }
def receiverNobodyRow : OpenClaim := { program := "ytcagfcflffhadaa", sum := "c81a1b5403ff6fc2c6a5ba224bd2eccbf69d2d98da43fe4714fbaff54bd747b1", func := "nozzle/nozzlelaw19.ReceiverNobody", spec := "receiverNobody", inPlace := ["maps.clone"], unfollowed := true, recurses := true, apart := false }
def ReceiverNobodySaid : Prop := receiverNobodyRow.holds Try.pinned (OpenSpec.ofChange receiverNobodySpec)

/-- ITS FALSE NEIGHBOUR: 'it returns false'. Refute it at one input. -/
def receiverNobodyWrong : ChangeSpec := { name := "receiverNobody", fn := fun _ => fun
  | [d] => { results := [.lit (.bool false)], args := [d] }
  | _ => none }
def ReceiverNobodyWrongFalsely : Prop := receiverNobodyRow.holds Try.pinned (OpenSpec.ofChange receiverNobodyWrong)

/- THE SECOND FORM. 'bulk': how many values and letters a reading holds, each counted each time it is reached (what is shared counts as often as it is met; a slice's spare places count too). A statement '..UptoSaid' is the law's where the arguments, and the package variables that the reading takes, are together of bulk at most 1048576: NARROWER than '..Said'. Prove '..Said' where nothing that the law and all that it calls make is longer than what came in: it says more and counts as full. Else prove '..UptoSaid'. A law counts once. -/
mutual
def uptoBulk {H : Type} : DataW H → Nat
  | .lit (.string bytes) => bytes.length + 1
  | .lit _ => 1
  | .nil => 1
  | .ptr d => uptoBulk d + 1
  | .slice elems spare => uptoBulkAll elems + uptoBulkAll spare + 1
  | .agg parts => uptoBulkAll parts + 1
  | .iface _ d => uptoBulk d + 1
  | .map entries => uptoBulkEntries entries + 1
  | .held _ => 1
def uptoBulkAll {H : Type} : List (DataW H) → Nat
  | [] => 0
  | d :: r => uptoBulk d + uptoBulkAll r
def uptoBulkEntries {H : Type} : List (Lit × DataW H) → Nat
  | [] => 0
  | x :: r => uptoBulkEntry x + uptoBulkEntries r
def uptoBulkEntry {H : Type} : Lit × DataW H → Nat
  | (.string bytes, d) => bytes.length + uptoBulk d + 1
  | (_, d) => uptoBulk d + 1
 end
def uptoSmall : (H : Type) → List (DataW H) → Bool := fun _ ds => decide (uptoBulkAll ds ≤ 1048576)
def OpenSpec.upto (s : _root_.Go.ChangeSpec) : _root_.Go.OpenSpec := { _root_.Go.OpenSpec.ofChange s with cond := some uptoSmall }

/-- 'nozzlelaw13.SendqAll', WHERE WHAT IT READS IS OF BULK AT MOST 1048576: true; the input reads as it did. -/
def sendqAllUptoRow : OpenClaim := { program := "ytcagfcflffhadaa", sum := "c81a1b5403ff6fc2c6a5ba224bd2eccbf69d2d98da43fe4714fbaff54bd747b1", func := "nozzle/nozzlelaw13.SendqAll", spec := "sendqAll", unfollowed := true, recurses := true, apart := false, narrowed := true }
def SendqAllUptoSaid : Prop := sendqAllUptoRow.holds Try.pinned (OpenSpec.upto sendqAllSpec)

/-- 'nozzlelaw20.TombEver', WHERE WHAT IT READS IS OF BULK AT MOST 1048576: true; the input reads as it did. -/
def tombEverUptoRow : OpenClaim := { program := "ytcagfcflffhadaa", sum := "c81a1b5403ff6fc2c6a5ba224bd2eccbf69d2d98da43fe4714fbaff54bd747b1", func := "nozzle/nozzlelaw20.TombEver", spec := "tombEver", unfollowed := true, recurses := true, apart := false, narrowed := true }
def TombEverUptoSaid : Prop := tombEverUptoRow.holds Try.pinned (OpenSpec.upto tombEverSpec)

/-- 'nozzlelaw20.TombRuns', WHERE WHAT IT READS IS OF BULK AT MOST 1048576: true; the input reads as it did. -/
def tombRunsUptoRow : OpenClaim := { program := "ytcagfcflffhadaa", sum := "c81a1b5403ff6fc2c6a5ba224bd2eccbf69d2d98da43fe4714fbaff54bd747b1", func := "nozzle/nozzlelaw20.TombRuns", spec := "tombRuns", unfollowed := true, recurses := true, apart := false, narrowed := true }
def TombRunsUptoSaid : Prop := tombRunsUptoRow.holds Try.pinned (OpenSpec.upto tombRunsSpec)

/-- 'nozzlelaw13.SendqRuns', WHERE WHAT IT READS IS OF BULK AT MOST 1048576: true; the input reads as it did. -/
def sendqRunsUptoRow : OpenClaim := { program := "ytcagfcflffhadaa", sum := "c81a1b5403ff6fc2c6a5ba224bd2eccbf69d2d98da43fe4714fbaff54bd747b1", func := "nozzle/nozzlelaw13.SendqRuns", spec := "sendqRuns", unfollowed := true, recurses := true, apart := false, narrowed := true }
def SendqRunsUptoSaid : Prop := sendqRunsUptoRow.holds Try.pinned (OpenSpec.upto sendqRunsSpec)

/-- 'nozzlelaw13.SendqNobody', WHERE WHAT IT READS IS OF BULK AT MOST 1048576: true; the input reads as it did. -/
def sendqNobodyUptoRow : OpenClaim := { program := "ytcagfcflffhadaa", sum := "c81a1b5403ff6fc2c6a5ba224bd2eccbf69d2d98da43fe4714fbaff54bd747b1", func := "nozzle/nozzlelaw13.SendqNobody", spec := "sendqNobody", unfollowed := true, recurses := true, apart := false, narrowed := true }
def SendqNobodyUptoSaid : Prop := sendqNobodyUptoRow.holds Try.pinned (OpenSpec.upto sendqNobodySpec)

/-- 'nozzlelaw20.TombNobody', WHERE WHAT IT READS IS OF BULK AT MOST 1048576: true; the input reads as it did. -/
def tombNobodyUptoRow : OpenClaim := { program := "ytcagfcflffhadaa", sum := "c81a1b5403ff6fc2c6a5ba224bd2eccbf69d2d98da43fe4714fbaff54bd747b1", func := "nozzle/nozzlelaw20.TombNobody", spec := "tombNobody", unfollowed := true, recurses := true, apart := false, narrowed := true }
def TombNobodyUptoSaid : Prop := tombNobodyUptoRow.holds Try.pinned (OpenSpec.upto tombNobodySpec)

/-- 'nozzlelaw20.TombAll', WHERE WHAT IT READS IS OF BULK AT MOST 1048576: true; the input reads as it did. -/
def tombAllUptoRow : OpenClaim := { program := "ytcagfcflffhadaa", sum := "c81a1b5403ff6fc2c6a5ba224bd2eccbf69d2d98da43fe4714fbaff54bd747b1", func := "nozzle/nozzlelaw20.TombAll", spec := "tombAll", unfollowed := true, recurses := true, apart := false, narrowed := true }
def TombAllUptoSaid : Prop := tombAllUptoRow.holds Try.pinned (OpenSpec.upto tombAllSpec)

/-- 'nozzlelaw19.ReceiverOrders', WHERE WHAT IT READS IS OF BULK AT MOST 1048576: true; the input reads as it did. -/
def receiverOrdersUptoRow : OpenClaim := { program := "ytcagfcflffhadaa", sum := "c81a1b5403ff6fc2c6a5ba224bd2eccbf69d2d98da43fe4714fbaff54bd747b1", func := "nozzle/nozzlelaw19.ReceiverOrders", spec := "receiverOrders", unfollowed := true, recurses := true, apart := false, narrowed := true }
def ReceiverOrdersUptoSaid : Prop := receiverOrdersUptoRow.holds Try.pinned (OpenSpec.upto receiverOrdersSpec)

/-- 'nozzlelaw19.ReceiverRuns', WHERE WHAT IT READS IS OF BULK AT MOST 1048576: true; the input reads as it did. -/
def receiverRunsUptoRow : OpenClaim := { program := "ytcagfcflffhadaa", sum := "c81a1b5403ff6fc2c6a5ba224bd2eccbf69d2d98da43fe4714fbaff54bd747b1", func := "nozzle/nozzlelaw19.ReceiverRuns", spec := "receiverRuns", inPlace := ["maps.clone"], unfollowed := true, recurses := true, apart := false, narrowed := true }
def ReceiverRunsUptoSaid : Prop := receiverRunsUptoRow.holds Try.pinned (OpenSpec.upto receiverRunsSpec)

/-- 'nozzlelaw19.ReceiverNobody', WHERE WHAT IT READS IS OF BULK AT MOST 1048576: true; the input reads as it did. -/
def receiverNobodyUptoRow : OpenClaim := { program := "ytcagfcflffhadaa", sum := "c81a1b5403ff6fc2c6a5ba224bd2eccbf69d2d98da43fe4714fbaff54bd747b1", func := "nozzle/nozzlelaw19.ReceiverNobody", spec := "receiverNobody", inPlace := ["maps.clone"], unfollowed := true, recurses := true, apart := false, narrowed := true }
def ReceiverNobodyUptoSaid : Prop := receiverNobodyUptoRow.holds Try.pinned (OpenSpec.upto receiverNobodySpec)

end Rows
end Go.Proofs.Ytcagfcflffhadaa
